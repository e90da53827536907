/-
  A text's table: plain functions, and that the printed functions compute them. Condition: a text of at most 2^18 bytes.
-/
import Derived.Test.YthbadcdiagcfkaaDoorPTab2
import Derived.Test.YthbadcdiagcfkaaDoorPAx6
import Derived.Lib.Join
import Derived.Lib.SplitLaws
import Derived.Lib.IndexLaws
namespace Go.Proofs.YthbadcdiagcfkaaDoor.Pl
open Go.RowKit Go.Proofs.YthbadcdiagcfkaaDoorW.PrintWords Go.Proofs.YthbadcdiagcfkaaDoorW.PrintMore

/-- A text cut at its LF: what has come of this line, what is left. -/
def lf : List UInt8 → List UInt8 → List (List UInt8)
  | cur, [] => [cur]
  | cur, x :: t => if x = 10 then cur :: lf [] t else lf (cur ++ [x]) t
theorem lf_none : ∀ (t cur : List UInt8), (10 : UInt8) ∉ t → lf cur t = [cur ++ t]
  | [], cur, _ => by simp [lf]
  | x :: t, cur, h => by
    rw [List.mem_cons, not_or] at h
    rw [lf, if_neg (fun e => h.1 e.symm), lf_none t _ h.2, List.append_assoc]
    rfl
theorem lf_cut : ∀ (p cur r : List UInt8), (10 : UInt8) ∉ p → lf cur (p ++ 10 :: r) = (cur ++ p) :: lf [] r
  | [], cur, r, _ => by simp [lf]
  | x :: p, cur, r, h => by
    rw [List.mem_cons, not_or] at h
    rw [List.cons_append, lf, if_neg (fun e => h.1 e.symm), lf_cut p _ r h.2, List.append_assoc]
    rfl
theorem lf_len : ∀ (t cur : List UInt8), (lf cur t).length ≤ t.length + 1
  | [], _ => by simp [lf]
  | x :: t, cur => by
    rw [lf]
    split
    · have := lf_len t []
      simp only [List.length_cons]
      omega
    · have := lf_len t (cur ++ [x])
      simp only [List.length_cons]
      omega
theorem lf_pos : ∀ (t cur : List UInt8), lf cur t ≠ []
  | [], _ => by simp [lf]
  | x :: t, cur => by
    rw [lf]
    split
    · simp
    · exact lf_pos t _
theorem lf_size : ∀ (t cur : List UInt8), ∀ p ∈ lf cur t, p.length ≤ cur.length + t.length
  | [], cur, p, hp => by
    rw [lf, List.mem_singleton] at hp
    rw [hp]
    simp
  | x :: t, cur, p, hp => by
    rw [lf] at hp
    split at hp
    · rcases List.mem_cons.1 hp with rfl | hp
      · simp
      · have := lf_size t [] p hp
        simp at this ⊢
        omega
    · have := lf_size t (cur ++ [x]) p hp
      simp at this ⊢
      omega
theorem lf_clean : ∀ (t cur : List UInt8), (10 : UInt8) ∉ cur → ∀ p ∈ lf cur t, (10 : UInt8) ∉ p
  | [], cur, hc, p, hp => by
    rw [lf, List.mem_singleton] at hp
    rw [hp]
    exact hc
  | x :: t, cur, hc, p, hp => by
    rw [lf] at hp
    split at hp
    · rcases List.mem_cons.1 hp with rfl | hp
      · exact hc
      · exact lf_clean t [] (by simp) p hp
    · rename_i hx
      exact lf_clean t (cur ++ [x]) (by simp [hc]; exact fun e => hx e.symm) p hp
theorem tail_join (l : List (List UInt8)) (h : l ≠ []) : Lib.joinTail [10] l = 10 :: Lib.join l [10] := by
  cases l with
  | nil => exact absurd rfl h
  | cons y r =>
    rw [Lib.join_cons]
    simp [Lib.joinTail]
theorem join_lf : ∀ (t cur : List UInt8), Lib.join (lf cur t) [10] = cur ++ t
  | [], cur => by rw [lf, Lib.join_one, List.append_nil]
  | x :: t, cur => by
    rw [lf]
    split
    · rename_i hx
      rw [Lib.join_cons, tail_join _ (lf_pos t []), join_lf t [], hx]
      rfl
    · rw [join_lf t, List.append_assoc]
      rfl
theorem lf_join : ∀ (l : List (List UInt8)), l ≠ [] → (∀ p ∈ l, (10 : UInt8) ∉ p) → lf [] (Lib.join l [10]) = l
  | [], h, _ => absurd rfl h
  | [x], _, h => by rw [Lib.join_one, lf_none x [] (h x (by simp))]; rfl
  | x :: y :: r, _, h => by
    rw [Lib.join_cons, tail_join _ (by simp), lf_cut x [] _ (h x (by simp)), lf_join (y :: r) (by simp) (fun p hp => h p (by simp [hp]))]
    rfl
theorem join_app (a b : List (List UInt8)) (ha : a ≠ []) (hb : b ≠ []) : Lib.join (a ++ b) [10] = Lib.join a [10] ++ 10 :: Lib.join b [10] := by
  cases a with
  | nil => exact absurd rfl ha
  | cons x r =>
    rw [List.cons_append, Lib.join_cons, Lib.join_cons, List.append_assoc, ← tail_join b hb]
    congr 1
    simp [Lib.joinTail]
theorem join_snoc (a : List (List UInt8)) (x : List UInt8) : Lib.join (a ++ [x]) [10] = if a = [] then x else Lib.join a [10] ++ 10 :: x := by
  by_cases ha : a = []
  · rw [if_pos ha, ha, List.nil_append, Lib.join_one]
  · rw [if_neg ha, join_app a [x] ha (by simp), Lib.join_one]
theorem ib_first : ∀ (p r : List UInt8) (c : UInt8), c ∉ p → Lib.indexByte (p ++ c :: r) c = p.length
  | [], r, c, _ => by simp [Lib.indexByte]
  | x :: p, r, c, h => by
    rw [List.mem_cons, not_or] at h
    have ih := ib_first p r c h.2
    simp only [List.cons_append, Lib.indexByte]
    rw [if_neg (by simpa using fun e => h.1 e.symm), ih, if_neg (by rw [beq_iff_eq]; omega)]
    simp
theorem mem_split (c : UInt8) : ∀ s : List UInt8, c ∈ s → ∃ p r, s = p ++ c :: r ∧ c ∉ p
  | [], h => by cases h
  | x :: t, h => by
    by_cases hx : x = c
    · exact ⟨[], t, by rw [hx]; rfl, by simp⟩
    · obtain ⟨p, r, e, hp⟩ := mem_split c t (by rcases List.mem_cons.1 h with e | e; exact absurd e.symm hx; exact e)
      exact ⟨x :: p, r, by rw [e]; rfl, by rw [List.mem_cons, not_or]; exact ⟨fun e => hx e.symm, hp⟩⟩
theorem split_lf : ∀ (n : Nat) (s : List UInt8), s.length ≤ n → Lib.splitB ⟨#[10]⟩ 0 (Lib.countB (B s) ⟨#[10]⟩) (B s) = (lf [] s).map B := by
  intro n
  induction n with
  | zero =>
    intro s h
    obtain rfl := List.length_eq_zero_iff.1 (Nat.le_zero.1 h)
    rfl
  | succ n ih =>
    intro s h
    by_cases hm : (10 : UInt8) ∈ s
    · obtain ⟨p, r, rfl, hp⟩ := mem_split 10 s hm
      rw [List.length_append, List.length_cons] at h
      have hc : Lib.countB (B (p ++ 10 :: r)) ⟨#[10]⟩ = Lib.countB (B r) ⟨#[10]⟩ + 1 := by
        show Lib.count (B (p ++ 10 :: r)).data.toList [10] = Lib.count (B r).data.toList [10] + 1
        rw [Lib.count_one, Lib.count_one, B_data, B_data, List.count_append, List.count_eq_zero.2 hp, List.count_cons_self]
        omega
      have hi : Lib.indexB (B (p ++ 10 :: r)) ⟨#[10]⟩ = (p.length : Int) := by
        show Lib.index (B (p ++ 10 :: r)).data.toList [10] = _
        rw [Lib.index_one, B_data, ib_first p r 10 hp]
      have e1 : (B (p ++ 10 :: r)).extract 0 (p.length + 0) = B p := by
        rw [Nat.add_zero, B_to, List.take_left']
        rfl
      have e2 : (B (p ++ 10 :: r)).extract (p.length + 1) (B (p ++ 10 :: r)).size = B r := by
        rw [B_from _ _ _ (B_size _), ← List.drop_drop, List.drop_left' rfl]
        rfl
      rw [lf_cut p [] r hp, List.map_cons, List.nil_append, hc, Lib.splitB, hi, if_neg (by rw [beq_iff_eq]; omega), Int.toNat_natCast, e1]
      congr 1
      rw [← ih r (by omega)]
      exact congrArg _ e2
    · have hc : Lib.countB (B s) ⟨#[10]⟩ = 0 := by
        show Lib.count (B s).data.toList [10] = 0
        rw [Lib.count_one, B_data]
        exact List.count_eq_zero.2 hm
      rw [hc, Lib.splitB_zero, lf_none s [] hm]
      rfl
/-- A text's lines. -/
def lns (s : List UInt8) : List (List UInt8) := lf [] s
theorem split_f (s : List UInt8) (h : s.length ≤ 1048576) : PA.strings_Split.f (B s) ⟨#[10]⟩ = some ((lns s).map B) := by
  unfold PA.strings_Split.f
  rw [if_pos ⟨by rw [B_size]; omega, by decide⟩, split_lf _ s (Nat.le_refl _)]
  rfl
theorem rcut_l (s : List UInt8) (hs : s.length ≤ 1048576) : ∀ (d i fr : Nat) (out : List (List UInt8)), i + d = s.length → fr ≤ i → out.length ≤ i →
    Ev (fun k => PA.incipitref15_cut.l0 k (B s) (out.map B) (fr : Int) (i : Int)) ((out ++ lf ((s.drop fr).take (i - fr)) (s.drop i)).map B) := by
  intro d
  induction d with
  | zero =>
    intro i fr out hi hf ho
    refine Ev.step (f := fun _ => some ((out ++ [s.drop fr]).map B)) (fun k => ?_) ?_
    · simp only [PA.incipitref15_cut.l0]
      rw [if_neg (by rw [B_size]; omega), if_pos (by omega), if_pos (by rw [B_size]; omega), if_pos (by rw [List.length_map]; omega), Int.toNat_natCast, B_from s fr _ (B_size _), List.map_append]
      rfl
    · have hdn : s.drop i = [] := List.drop_eq_nil_of_le (by omega)
      rw [hdn, lf, List.take_of_length_le (by rw [List.length_drop]; omega)]
      exact Ev.now _
  | succ d ih =>
    intro i fr out hi hf ho
    have hil : i < s.length := by omega
    have hx := B_bt s i hil
    have h10 : ((s[i].toNat : Int) = 10) ↔ s[i] = 10 := u8_eq s[i] 10 (by omega)
    have hd : s.drop i = s[i] :: s.drop (i + 1) := List.drop_eq_getElem_cons hil
    have hw : wrap64 ((i : Int) + 1) = ((i + 1 : Nat) : Int) := w64 (by omega) (by omega)
    rw [hd, lf]
    by_cases hc : s[i] = 10
    · rw [if_pos hc]
      have hn := ih (i + 1) (i + 1) (out ++ [(s.drop fr).take (i - fr)]) (by omega) (Nat.le_refl _) (by rw [List.length_append]; simp; omega)
      rw [Nat.sub_self, List.take_zero, List.append_assoc] at hn
      refine Ev.step (fun k => ?_) hn
      simp only [PA.incipitref15_cut.l0]
      rw [if_pos (by rw [B_size]; omega), if_pos (by omega), if_pos (by rw [hx]; exact h10.2 hc), if_pos (by omega), if_pos (by omega), if_pos (by rw [B_size]; omega), if_pos (by rw [List.length_map]; omega), Int.toNat_natCast, Int.toNat_natCast, B_extract, hw, List.map_append]
      rfl
    · rw [if_neg hc]
      have hn := ih (i + 1) fr out (by omega) (by omega) (by omega)
      rw [show i + 1 - fr = (i - fr) + 1 by omega, List.take_add_one, List.getElem?_drop, show fr + (i - fr) = i by omega, List.getElem?_eq_getElem hil] at hn
      refine Ev.step (fun k => ?_) hn
      simp only [PA.incipitref15_cut.l0]
      rw [if_pos (by rw [B_size]; omega), if_pos (by omega), if_neg (by rw [hx]; exact fun e => hc (h10.1 e)), hw]
theorem rcut_ev (s : List UInt8) (hs : s.length ≤ 1048576) : Ev (fun k => PA.incipitref15_cut.f k (B s)) ((lns s).map B) := rcut_l s hs _ 0 0 [] (Nat.zero_add _) (Nat.le_refl _) (Nat.le_refl _)
/-- Does a table begin with two lines? -/
def bgOk (h b : List UInt8) : Bool := (als b).2 && (decide ((124 : UInt8) ∈ h) && decide ((cells h).length = (als b).1.length))
theorem begins_ev (h b : List UInt8) (hh : h.length ≤ 1048576) (hb : b.length ≤ 1048576) : Ev (fun k => PA.table_begins.f k (B h) (B b)) ((als b).1, bgOk h b) := by
  unfold PA.table_begins.f
  refine Ev.bind (aligns_ev b hb) ?_
  refine Ev.congr (f := fun _ => some ((als b).1, bgOk h b)) (fun k => ?_) (Ev.now _)
  unfold bgOk
  rw [contains_f, cells_f h hh]
  cases (als b).2 with
  | false => simp
  | true =>
    by_cases hc : (124 : UInt8) ∈ h
    · simp only [hc, decide_true, Option.bind_some, if_true, List.length_map, Bool.true_and]
      congr 3
      rw [Bool.eq_iff_iff]
      simp
      omega
    · simp [hc]
/-- A row: so many cells. -/
def rowB (s : List UInt8) (n : Nat) : List ByteArray := ((cells s).map B).take n ++ List.replicate (n - (cells s).length) ByteArray.empty
theorem row_f (s : List UInt8) (n : Nat) (hn : n ≤ 1000000) : PA.table_row.f ((cells s).map B) (n : Int) = some (rowB s n) := by
  unfold PA.table_row.f rowB
  rw [if_pos ⟨by omega, by omega⟩, Int.toNat_natCast, List.length_map]
theorem rowB_len (s : List UInt8) (n : Nat) : (rowB s n).length = n := by
  unfold rowB
  rw [List.length_append, List.length_take, List.length_replicate, List.length_map]
  omega
theorem rrow_l (l : List ByteArray) (n : Nat) (hn : n ≤ 1000000) : ∀ (d i : Nat), i + d = n →
    Ev (fun k => PA.incipitref15_row.l0 k l (n : Int) (l.take i ++ List.replicate (n - min i l.length) ByteArray.empty) (i : Int)) (l.take n ++ List.replicate (n - l.length) ByteArray.empty) := by
  intro d
  induction d with
  | zero =>
    intro i hi
    obtain rfl : i = n := by omega
    refine Ev.step (f := fun _ => some (l.take i ++ List.replicate (i - l.length) ByteArray.empty)) (fun k => ?_) (Ev.now _)
    simp only [PA.incipitref15_row.l0]
    rw [if_neg (by omega), show i - min i l.length = i - l.length by omega]
  | succ d ih =>
    intro i hi
    by_cases hil : i < l.length
    · refine Ev.step (fun k => ?_) (ih (i + 1) (by omega))
      simp only [PA.incipitref15_row.l0]
      have e : (l.take i ++ List.replicate (n - min i l.length) ByteArray.empty).set i (rdOf ByteArray.empty l (i : Int)) = l.take (i + 1) ++ List.replicate (n - min (i + 1) l.length) ByteArray.empty := by
        rw [getD_at l i hil, List.set_append_right _ _ (by rw [List.length_take]; omega), List.length_take, show i - min i l.length = 0 by omega, show n - min i l.length = (n - min (i + 1) l.length) + 1 by omega, List.replicate_succ, List.set_cons_zero, ← List.take_append_getElem hil, List.append_assoc]
        rfl
      rw [if_pos (by omega), if_pos (by omega), if_pos (by omega), if_pos (by rw [List.length_append, List.length_take, List.length_replicate]; omega), Int.toNat_natCast, e, w64 (by omega) (by omega)]
      rfl
    · refine Ev.step (f := fun _ => some (l.take n ++ List.replicate (n - l.length) ByteArray.empty)) (fun k => ?_) (Ev.now _)
      simp only [PA.incipitref15_row.l0]
      rw [if_pos (by omega), if_neg (by omega), List.take_of_length_le (by omega), List.take_of_length_le (by omega), show n - min i l.length = n - l.length by omega]
theorem rrow_ev (s : List UInt8) (n : Nat) (hn : n ≤ 1000000) : Ev (fun k => PA.incipitref15_row.f k ((cells s).map B) (n : Int)) (rowB s n) := by
  unfold PA.incipitref15_row.f
  have h := rrow_l ((cells s).map B) n hn n 0 (by omega)
  rw [List.length_map] at h
  refine Ev.congr (fun k => ?_) h
  rw [if_pos (by omega), if_pos (by rw [Int.toNat_natCast]; omega), Int.toNat_natCast, Nat.zero_min]
  rfl
/-- The first place at which a table begins. -/
def spl (ls : List (List UInt8)) : Nat → Nat → Option Nat
  | 0, _ => none
  | d + 1, i => if bgOk (ls.getD (i - 1) []) (ls.getD i []) = true then some i else spl ls d (i + 1)
theorem spl_some (ls : List (List UInt8)) : ∀ (d i j : Nat), spl ls d i = some j → i ≤ j ∧ j < i + d ∧ bgOk (ls.getD (j - 1) []) (ls.getD j []) = true ∧ ∀ m, i ≤ m → m < j → bgOk (ls.getD (m - 1) []) (ls.getD m []) = false
  | 0, _, _, h => by cases h
  | d + 1, i, j, h => by
    rw [spl] at h
    split at h
    · rename_i hb
      obtain rfl := Option.some.inj h
      exact ⟨Nat.le_refl _, by omega, hb, fun m h1 h2 => by omega⟩
    · rename_i hb
      obtain ⟨h1, h2, h3, h4⟩ := spl_some ls d (i + 1) j h
      refine ⟨by omega, by omega, h3, fun m h5 h6 => ?_⟩
      by_cases hm : m = i
      · subst hm
        simpa using hb
      · exact h4 m (by omega) h6
theorem spl_none (ls : List (List UInt8)) : ∀ (d i : Nat), (∀ m, i ≤ m → m < i + d → bgOk (ls.getD (m - 1) []) (ls.getD m []) = false) → spl ls d i = none
  | 0, _, _ => rfl
  | d + 1, i, h => by
    rw [spl, h i (Nat.le_refl _) (by omega), if_neg (by decide)]
    exact spl_none ls d (i + 1) (fun m h1 h2 => h m (by omega) (by omega))
/-- The rows of a table whose second line is at a place. -/
def rws (ls : List (List UInt8)) (i : Nat) (n : Nat) : List (List ByteArray) := rowB (ls.getD (i - 1) []) n :: (ls.drop (i + 1)).map fun x => rowB x n
def splR (s : List UInt8) : ByteArray × List (List ByteArray) × List Int :=
  match spl (lns s) ((lns s).length - 1) 1 with
  | none => (B s, [], [])
  | some i => (B (Lib.join ((lns s).take (i - 1)) [10]), rws (lns s) i (als ((lns s).getD i [])).1.length, (als ((lns s).getD i [])).1)
theorem lns_len (s : List UInt8) : (lns s).length ≤ s.length + 1 := lf_len s []
theorem lns_size (s : List UInt8) : ∀ p ∈ lns s, p.length ≤ s.length := fun p hp => by
  have := lf_size s [] p hp
  simpa using this
theorem getD_le (ls : List (List UInt8)) (n i : Nat) (h : ∀ p ∈ ls, p.length ≤ n) : (ls.getD i []).length ≤ n := by
  rw [List.getD_eq_getElem?_getD]
  cases hq : ls[i]? with
  | none => simp
  | some p => exact h p (List.mem_of_getElem? hq)
theorem getD_in (ls : List (List UInt8)) (i : Nat) (h : i < ls.length) : ls.getD i [] = ls[i] := by
  rw [List.getD_eq_getElem?_getD, List.getElem?_eq_getElem h]
  rfl
theorem rd_ln (ls : List (List UInt8)) (i : Nat) (h : i < ls.length) : rdOf ByteArray.empty (ls.map B) (i : Int) = B (ls.getD i []) := by rw [getD_B i h, getD_in ls i h]
theorem join_le (ls : List (List UInt8)) (n : Nat) : (Lib.join (ls.take n) [10]).length ≤ (Lib.join ls [10]).length := by
  by_cases h : n < ls.length
  · by_cases h0 : n = 0
    · subst h0
      rw [List.take_zero]
      exact Nat.zero_le _
    · have e := join_app (ls.take n) (ls.drop n) (fun e => by have := congrArg List.length e; rw [List.length_take, List.length_nil] at this; omega) (fun e => by have := congrArg List.length e; rw [List.length_drop, List.length_nil] at this; omega)
      rw [List.take_append_drop] at e
      rw [e, List.length_append]
      omega
  · rw [List.take_of_length_le (by omega)]
    exact Nat.le_refl _
theorem join_f (s : List UInt8) (hs : s.length ≤ 262144) (n : Nat) : PA.strings_Join.f (((lns s).map B).take n) ⟨#[10]⟩ = some (B (Lib.join ((lns s).take n) [10])) := by
  have h1 := lns_len s
  have h2 : Lib.join (lns s) [10] = s := by have := join_lf s []; rwa [List.nil_append] at this
  have h3 := join_le (lns s) n
  rw [h2] at h3
  have e : ((((lns s).map B).take n).map (·.data.toList)) = (lns s).take n := by
    rw [← List.map_take, List.map_map]
    conv => rhs; rw [← List.map_id ((lns s).take n)]
    apply List.map_congr_left
    intro x _
    exact B_data x
  unfold PA.strings_Join.f
  rw [e, if_pos ⟨by rw [List.length_take, List.length_map]; omega, by show (Lib.join _ [10]).length ≤ _; omega⟩]
  rfl
theorem split_l1 (s : List UInt8) (hs : s.length ≤ 262144) (i : Nat) (hi : 1 ≤ i) (hil : i < (lns s).length) (a : List Int) (ha : a.length ≤ 262145) : ∀ (d m : Nat), (i + 1) + m + d = (lns s).length →
    Ev (fun k => PA.table_Split.l1 k ((lns s).map B) (i : Int) a (rowB ((lns s).getD (i - 1) []) a.length :: (((lns s).drop (i + 1)).take m).map fun x => rowB x a.length) (((lns s).map B).drop (i + 1)) ((((lns s).map B).drop (i + 1)).length : Int) (m : Int))
      (B (Lib.join ((lns s).take (i - 1)) [10]), rws (lns s) i a.length, a) := by
  have h1 := lns_len s
  have hz : (((lns s).map B).drop (i + 1)).length = (lns s).length - (i + 1) := by rw [List.length_drop, List.length_map]
  intro d
  induction d with
  | zero =>
    intro m hm
    rw [List.take_of_length_le (by rw [List.length_drop]; omega)]
    refine Ev.step (f := fun _ => some (B (Lib.join ((lns s).take (i - 1)) [10]), rws (lns s) i a.length, a)) (fun k => ?_) (Ev.now _)
    simp only [PA.table_Split.l1]
    have hw1 : wrap64 ((i : Int) - 1) = ((i - 1 : Nat) : Int) := by rw [w64 (by omega) (by omega)]; omega
    rw [if_neg (by omega), hw1, if_pos (by omega), if_pos (by rw [List.length_map]; omega), Int.toNat_natCast, join_f s hs, Option.bind_some]
    rfl
  | succ d ih =>
    intro m hm
    have hdl : m < ((lns s).drop (i + 1)).length := by rw [List.length_drop]; omega
    have hrd : rdOf ByteArray.empty (((lns s).map B).drop (i + 1)) (m : Int) = B (((lns s).drop (i + 1))[m]'hdl) := by
      rw [← List.map_drop]
      exact getD_B m hdl
    have hsz : ((((lns s).drop (i + 1))[m]'hdl)).length ≤ 1048576 := by
      have := lns_size s _ (List.mem_of_mem_drop (List.getElem_mem hdl))
      omega
    refine Ev.step (fun k => ?_) (ih (m + 1) (by omega))
    simp only [PA.table_Split.l1]
    rw [if_pos (by omega), if_pos (by omega), if_pos (by omega), hrd, cells_f _ hsz, Option.bind_some, row_f _ _ (by omega), Option.bind_some, if_pos (by rw [List.length_cons, List.length_map, List.length_take]; omega), w64 (by omega) (by omega), List.cons_append, ← List.take_append_getElem hdl, List.map_append]
    rfl
theorem split_l (s : List UInt8) (hs : s.length ≤ 262144) : ∀ (d i : Nat), 1 ≤ i → i + d = (lns s).length → Ev (fun k => PA.table_Split.l0 k (B s) ((lns s).map B) (i : Int))
    (match spl (lns s) d i with
    | none => (B s, [], [])
    | some i => (B (Lib.join ((lns s).take (i - 1)) [10]), rws (lns s) i (als ((lns s).getD i [])).1.length, (als ((lns s).getD i [])).1)) := by
  have h1 := lns_len s
  intro d
  induction d with
  | zero =>
    intro i h0 hi
    refine Ev.step (f := fun _ => some (B s, [], [])) (fun k => ?_) (Ev.now _)
    simp only [PA.table_Split.l0]
    rw [if_neg (by rw [List.length_map]; omega)]
  | succ d ih =>
    intro i h0 hi
    have hw1 : wrap64 ((i : Int) - 1) = ((i - 1 : Nat) : Int) := by rw [w64 (by omega) (by omega)]; omega
    have hw2 : wrap64 ((i : Int) + 1) = ((i + 1 : Nat) : Int) := w64 (by omega) (by omega)
    have hl1 := getD_le (lns s) s.length (i - 1) (lns_size s)
    have hl2 := getD_le (lns s) s.length i (lns_size s)
    refine Ev.step (f := fun k => (PA.table_begins.f k (B ((lns s).getD (i - 1) [])) (B ((lns s).getD i []))).bind fun bt133 => (if bt133.2 = true then ((PA.table_Cells.f (B ((lns s).getD (i - 1) []))).bind fun t138 => ((PA.table_row.f t138 (bt133.1.length : Int)).bind fun t141 => PA.table_Split.l1 k ((lns s).map B) (i : Int) bt133.1 [t141] (((lns s).map B).drop (i + 1)) ((((lns s).map B).drop (i + 1)).length : Int) 0)) else (PA.table_Split.l0 k (B s) ((lns s).map B) ((i + 1 : Nat) : Int)))) (fun k => ?_) ?_
    · simp only [PA.table_Split.l0]
      rw [if_pos (by rw [List.length_map]; omega), hw1, if_pos (by omega), if_pos (by rw [List.length_map]; omega), if_pos (by omega), rd_ln _ _ (by omega), rd_ln _ _ (by omega), hw2]
      have hc1 : (0 : Int) ≤ ((i + 1 : Nat) : Int) := by omega
      have hc2 : ((i + 1 : Nat) : Int) ≤ (((lns s).map B).length : Int) := by rw [List.length_map]; omega
      simp only [hc1, hc2, if_true, Option.bind_some, Int.toNat_natCast]
    · refine Ev.bind (begins_ev _ _ (by omega) (by omega)) ?_
      have hal := als_len ((lns s).getD i [])
      rw [spl]
      by_cases hb : bgOk ((lns s).getD (i - 1) []) ((lns s).getD i []) = true
      · rw [if_pos hb, hb]
        simp only [if_true]
        rw [cells_f _ (by omega)]
        simp only [Option.bind_some]
        rw [row_f _ _ (by omega)]
        simp only [Option.bind_some]
        have h := split_l1 s hs i h0 (by omega) (als ((lns s).getD i [])).1 (by omega) d 0 (by omega)
        rw [List.take_zero, List.map_nil] at h
        exact h
      · rw [if_neg hb, Bool.not_eq_true] at *
        rw [hb]
        simp only [Bool.false_eq_true, if_false]
        exact ih (i + 1) (by omega) (by omega)
theorem split_ev (s : List UInt8) (hs : s.length ≤ 262144) : Ev (fun k => PA.table_Split.f k (B s)) (splR s) := by
  unfold PA.table_Split.f
  have hp : 0 < (lns s).length := List.length_pos_iff.2 (lf_pos s [])
  refine Ev.congr (fun k => ?_) (split_l s hs ((lns s).length - 1) 1 (Nat.le_refl _) (by omega))
  rw [split_f s (by omega), Option.bind_some]
  rfl
end Go.Proofs.YthbadcdiagcfkaaDoor.Pl
