/-
  Lines that are written with bars: which cells they have. No condition.
-/
import Derived.Test.YthbadcdiagcfkaaDoorPTab2
namespace Go.Proofs.YthbadcdiagcfkaaDoor.Pl
open Go.RowKit Go.Proofs.YthbadcdiagcfkaaDoorW.PrintWords Go.Proofs.YthbadcdiagcfkaaDoorW.PrintMore

/-- Letters. -/
def lts (l : List UInt8) : Prop := ∀ x ∈ l, 97 ≤ x.toNat ∧ x.toNat ≤ 122
theorem lt_ne {x : UInt8} (h : 97 ≤ x.toNat ∧ x.toNat ≤ 122) (c : UInt8) (hc : c.toNat < 97 ∨ 122 < c.toNat) : x ≠ c := fun e => by subst e; omega
theorem lt_ws {x : UInt8} (h : 97 ≤ x.toNat ∧ x.toNat ≤ 122) : ws.contains x = false := by
  rw [← Bool.not_eq_true]
  intro e
  rcases (ws_iff x).1 e with e | e <;> omega
theorem prt_cut : ∀ (p cur : List UInt8) (prev : UInt8) (r : List UInt8), (∀ x ∈ p, x ≠ 124 ∧ x ≠ 92) → prev ≠ 92 → PA.prt cur prev (p ++ 124 :: r) = (cur ++ p) :: PA.prt [] 124 r
  | [], cur, prev, r, _, h => by rw [List.nil_append, PA.prt, if_pos ⟨rfl, h⟩, List.append_nil]
  | x :: p, cur, prev, r, hp, _ => by
    have hx := hp x (by simp)
    rw [List.cons_append, PA.prt, if_neg (fun e => hx.1 e.1), prt_cut p (cur ++ [x]) x r (fun y hy => hp y (by simp [hy])) hx.2, List.append_assoc]
    rfl
theorem prt_end : ∀ (p cur : List UInt8) (prev : UInt8), (∀ x ∈ p, x ≠ 124) → PA.prt cur prev p = [cur ++ p]
  | [], cur, prev, _ => by rw [PA.prt, List.append_nil]
  | x :: p, cur, prev, hp => by
    rw [PA.prt, if_neg (fun e => hp x (by simp) e.1), prt_end p (cur ++ [x]) x (fun y hy => hp y (by simp [hy])), List.append_assoc]
    rfl
/-- Texts with bars between them. -/
def jb : List (List UInt8) → List UInt8
  | [] => []
  | [x] => x
  | x :: y :: l => x ++ 124 :: jb (y :: l)
theorem prt_jb : ∀ (l : List (List UInt8)) (prev : UInt8), l ≠ [] → (∀ p ∈ l, ∀ x ∈ p, x ≠ 124 ∧ x ≠ 92) → prev ≠ 92 → PA.prt [] prev (jb l) = l
  | [], _, h, _, _ => absurd rfl h
  | [x], prev, _, h, _ => by rw [jb, prt_end x [] prev (fun y hy => (h x (by simp) y hy).1)]; rfl
  | x :: y :: l, prev, _, h, hp => by
    rw [jb, prt_cut x [] prev _ (h x (by simp)) hp, prt_jb (y :: l) 124 (by simp) (fun p hp => h p (by simp [hp])) (by decide)]
    rfl
theorem jb_mem : ∀ (l : List (List UInt8)), (∀ p ∈ l, ∀ x ∈ p, x ≠ 124 ∧ x ≠ 92) → (92 : UInt8) ∉ jb l
  | [], _ => by simp [jb]
  | [x], h => by rw [jb]; exact fun e => (h x (by simp) _ e).2 rfl
  | x :: y :: l, h => by
    rw [jb, List.mem_append, List.mem_cons]
    rintro (e | e | e)
    · exact (h x (by simp) _ e).2 rfl
    · exact absurd e (by decide)
    · exact jb_mem (y :: l) (fun p hp => h p (by simp [hp])) e
theorem flat_jb : ∀ (l : List (List UInt8)), l ≠ [] → (l.map (· ++ [124])).flatten = jb l ++ [124]
  | [], h => absurd rfl h
  | [x], _ => by simp [jb]
  | x :: y :: l, _ => by
    rw [List.map_cons, List.flatten_cons, flat_jb (y :: l) (by simp), jb]
    simp
theorem cutC_bar (r : List UInt8) (h : (92 : UInt8) ∉ r) : cutC (r ++ [124]) = r := by
  rcases List.eq_nil_or_concat r with rfl | ⟨q, y, rfl⟩
  · rw [List.nil_append, cutC_one, if_pos rfl]
  · rw [List.concat_eq_append] at h ⊢
    rw [show q ++ [y] ++ [124] = q ++ [y, 124] by simp, cutC_two, if_pos ⟨rfl, fun e => h (by simp [e])⟩]
theorem tr_end (a : List UInt8) (x : UInt8) (h : ws.contains x = false) : tr (a ++ [x]) = a ++ [x] := by
  unfold tr
  rw [List.reverse_append, List.reverse_singleton, List.singleton_append, List.dropWhile_cons, if_neg (by rw [h]; decide), List.reverse_cons, List.reverse_reverse]
theorem tl_end (a : List UInt8) (x : UInt8) (h : ws.contains x = false) : tl (x :: a) = x :: a := by
  unfold tl
  rw [List.dropWhile_cons, if_neg (by rw [h]; decide)]
theorem unb_id : ∀ (l : List UInt8), (∀ x ∈ l, x ≠ 92) → PA.unb l = l
  | [], _ => rfl
  | [x], _ => rfl
  | x :: y :: t, h => by
    rw [PA.unb, if_neg (fun e => h x (by simp) e.1), unb_id (y :: t) (fun z hz => h z (by simp [hz]))]
/-- White space, a line between bars, white space: its cells. -/
theorem cells_bars (a b : List UInt8) (l : List (List UInt8)) (ha : a.all (ws.contains ·) = true) (hb : b.all (ws.contains ·) = true) (hl : l ≠ []) (h : ∀ p ∈ l, ∀ x ∈ p, x ≠ 124 ∧ x ≠ 92) : cells (a ++ (124 :: (l.map (· ++ [124])).flatten) ++ b) = l.map cel := by
  have e1 : tl (tr (a ++ (124 :: (l.map (· ++ [124])).flatten) ++ b)) = 124 :: (jb l ++ [124]) := by
    rw [flat_jb l hl, tr_suf _ _ hb, show a ++ 124 :: (jb l ++ [124]) = (a ++ 124 :: jb l) ++ [124] by simp, tr_end _ _ (by decide), show (a ++ 124 :: jb l) ++ [124] = a ++ (124 :: (jb l ++ [124])) by simp, tl_pre _ _ ha, tl_end _ _ (by decide)]
  have e2 : PA.cutB (a ++ (124 :: (l.map (· ++ [124])).flatten) ++ b) = cutC (PA.cut1 (a ++ (124 :: (l.map (· ++ [124])).flatten) ++ b)) := rfl
  unfold cells
  rw [e2, cut1_t, e1]
  unfold Lib.trimPrefix
  rw [if_pos (by rw [pre_one]; rfl)]
  show List.map cel (PA.prt [] 0 (cutC (jb l ++ [124]))) = _
  rw [cutC_bar _ (jb_mem l h), prt_jb l 0 hl h (by decide)]
/-- A cell's text with blanks around it. -/
def wr (wide : Bool) (x : List UInt8) : List UInt8 := if wide = true then 32 :: (x ++ [32, 9]) else x
theorem tlr_id (x : List UInt8) (h : lts x) : tl (tr x) = x := by
  have h1 : tr x = x := by
    rcases List.eq_nil_or_concat x with rfl | ⟨q, y, rfl⟩
    · rfl
    · rw [List.concat_eq_append] at h ⊢
      exact tr_end q y (lt_ws (h y (by simp)))
  rw [h1]
  cases x with
  | nil => rfl
  | cons y t => exact tl_end t y (lt_ws (h y (by simp)))
theorem wr_mem (wide : Bool) (x : List UInt8) (h : lts x) : ∀ y ∈ wr wide x, y ≠ 124 ∧ y ≠ 92 := by
  intro y hy
  unfold wr at hy
  have hl : ∀ z ∈ x, z ≠ 124 ∧ z ≠ 92 := fun z hz => ⟨lt_ne (h z hz) 124 (by decide), lt_ne (h z hz) 92 (by decide)⟩
  split at hy
  · rcases List.mem_cons.1 hy with rfl | hy
    · decide
    · rcases List.mem_append.1 hy with hy | hy
      · exact hl y hy
      · rcases List.mem_cons.1 hy with rfl | hy
        · decide
        · rw [List.mem_singleton.1 hy]
          decide
  · exact hl y hy
theorem cel_wr (wide : Bool) (x : List UInt8) (h : lts x) : cel (wr wide x) = x := by
  unfold cel
  rw [unb_id _ (fun y hy => (wr_mem wide x h y hy).2)]
  unfold wr
  split
  · rw [show (32 : UInt8) :: (x ++ [32, 9]) = ([32] ++ x) ++ [32, 9] by simp, tr_suf _ _ (by decide)]
    rw [tl_tr, tl_pre _ _ (by decide), ← tl_tr]
    exact tlr_id x h
  · exact tlr_id x h
/-- Cells of letters, between bars, with blanks or without. -/
theorem cells_plain (a b : List UInt8) (wide : Bool) (l : List (List UInt8)) (ha : a.all (ws.contains ·) = true) (hb : b.all (ws.contains ·) = true) (hl : l ≠ []) (h : ∀ p ∈ l, lts p) : cells (a ++ (124 :: (l.map fun x => wr wide x ++ [124]).flatten) ++ b) = l := by
  have e : (l.map fun x => wr wide x ++ [124]) = ((l.map (wr wide)).map (· ++ [124])) := by rw [List.map_map]; rfl
  rw [e, cells_bars a b (l.map (wr wide)) ha hb (by simpa using hl) (fun p hp => by obtain ⟨x, hx, rfl⟩ := List.mem_map.1 hp; exact wr_mem wide x (h x hx)), List.map_map]
  conv => rhs; rw [← List.map_id l]
  exact List.map_congr_left fun x hx => cel_wr wide x (h x hx)
end Go.Proofs.YthbadcdiagcfkaaDoor.Pl
