/-
  Plain lemmas for the layer column: widths, what is left without some columns, white space at the ends. No condition.
-/
import Derived.Test.YtjjpfkfdcbipjaaDoorPBase
import Derived.Test.YtjjpfkfdcbipjaaDoorCol
import Derived.Test.YtjjpfkfdcbipjaaDoorGSkip
import Derived.Lib.SlTrimSet
namespace Go.Proofs.YtjjpfkfdcbipjaaDoor.Pl
open Go.RowKit Go.Proofs.YtjjpfkfdcbipjaaDoorW.PrintWords Go.Proofs.YtjjpfkfdcbipjaaDoorW.PrintMore

theorem wide_zero (x : UInt8) (c : Nat) : wideB x c = 0 ↔ x ≠ 9 ∧ x ≠ 32 := by
  unfold wideB
  by_cases h : x = 9
  · simp only [h, if_true]
    constructor
    · intro h0; omega
    · intro h0; exact absurd rfl h0.1
  · by_cases h2 : x = 32
    · simp [h2]
    · simp [h, h2]
theorem wide_sp (c : Nat) : wideB 32 c = 1 := by simp [wideB]
theorem ind_none (l : List UInt8) (c c' : Nat) (h : ind l c = (0, 0)) : ind l c' = (0, 0) := by
  cases l with
  | nil => rfl
  | cons x t =>
    unfold ind at h ⊢
    by_cases hw : wideB x c = 0
    · rw [if_pos (by rw [wide_zero] at hw ⊢; exact hw)]
    · rw [if_neg hw] at h
      simp at h
theorem ind_stop : ∀ (l : List UInt8) (c c' : Nat), ind (l.drop (ind l c).2) c' = (0, 0)
  | [], _, _ => by simp [ind]
  | x :: t, c, c' => by
    by_cases hw : wideB x c = 0
    · have e : ind (x :: t) c = (0, 0) := by unfold ind; rw [if_pos hw]
      rw [e]
      exact ind_none _ _ _ e
    · have e : ind (x :: t) c = (wideB x c + (ind t (c + wideB x c)).1, (ind t (c + wideB x c)).2 + 1) := by rw [ind, if_neg hw]
      rw [e]
      simp only [List.drop_succ_cons]
      exact ind_stop t _ _
theorem ind_sp : ∀ (m : Nat) (r : List UInt8) (c : Nat), ind (List.replicate m 32 ++ r) c = (m + (ind r (c + m)).1, m + (ind r (c + m)).2)
  | 0, r, c => by simp
  | m + 1, r, c => by
    rw [List.replicate_succ, List.cons_append, ind, wide_sp, if_neg (by decide), ind_sp m r (c + 1), show c + 1 + m = c + (m + 1) by omega]
    simp only [Prod.mk.injEq]
    omega
/-- What skp leaves. -/
theorem skp_ind : ∀ (l : List UInt8) (c n : Nat), (ind l c).1 + (skp l c n).2.1 = n + (ind (l.drop (skp l c n).2.2.2) (skp l c n).2.2.1).1 ∧ (ind l c).2 = (skp l c n).2.2.2 + (ind (l.drop (skp l c n).2.2.2) (skp l c n).2.2.1).2 ∧
    ((skp l c n).1 = 0 → ind (l.drop (skp l c n).2.2.2) (skp l c n).2.2.1 = (0, 0)) ∧
    ((skp l c n).1 ≠ 0 → ∃ x r, l.drop (skp l c n).2.2.2 = x :: r ∧ wideB x (skp l c n).2.2.1 = (skp l c n).1)
  | [], c, n => by simp [ind, skp]
  | x :: t, c, n => by
    by_cases hw : wideB x c = 0
    · have e : ind (x :: t) c = (0, 0) := by unfold ind; rw [if_pos hw]
      have e2 : skp (x :: t) c n = (0, n, c, 0) := by rw [skp, if_pos hw]
      simp [e, e2]
    · have e : ind (x :: t) c = (wideB x c + (ind t (c + wideB x c)).1, (ind t (c + wideB x c)).2 + 1) := by rw [ind, if_neg hw]
      by_cases hn : n < wideB x c
      · have e2 : skp (x :: t) c n = (wideB x c, n, c, 0) := by rw [skp, if_neg hw, if_pos hn]
        rw [e2]
        refine ⟨?_, ?_, fun h => absurd h hw, fun _ => ⟨x, t, rfl, rfl⟩⟩
        · show _ + n = n + (ind (x :: t) c).1
          omega
        · show _ = 0 + (ind (x :: t) c).2
          omega
      · have e2 : skp (x :: t) c n = ((skp t (c + wideB x c) (n - wideB x c)).1, (skp t (c + wideB x c) (n - wideB x c)).2.1, (skp t (c + wideB x c) (n - wideB x c)).2.2.1, (skp t (c + wideB x c) (n - wideB x c)).2.2.2 + 1) := by rw [skp, if_neg hw, if_neg hn]
        obtain ⟨h1, h2, h3, h4⟩ := skp_ind t (c + wideB x c) (n - wideB x c)
        rw [e2, e]
        simp only [List.drop_succ_cons]
        refine ⟨?_, ?_, h3, h4⟩
        · clear h3 h4
          show _ + _ + _ = _
          omega
        · clear h3 h4
          show _ + 1 = _
          omega
/-- T, c' is l from column c on without n columns. -/
structure Sk (l : List UInt8) (c n : Nat) (T : List UInt8) (c' : Nat) : Prop where
  col : c' = c + min (ind l c).1 n
  wide : (ind T c').1 = (ind l c).1 - n
  rest : T.drop (ind T c').2 = l.drop (ind l c).2
  len : T.length ≤ l.length + 4
theorem skipF_sk (l : List UInt8) (c n : Nat) : ∃ (T : List UInt8) (c' : Nat), PA.skipF l c n = (B T, (c' : Int)) ∧ Sk l c n T c' := by
  obtain ⟨h1, h2, h3, h4⟩ := skp_ind l c n
  obtain ⟨g1, g2, g3, g4, g5⟩ := skp_le l c n
  unfold PA.skipF
  generalize (skp l c n).1 = cut at *
  generalize (skp l c n).2.1 = n' at *
  generalize (skp l c n).2.2.1 = col' at *
  generalize (skp l c n).2.2.2 = k at *
  by_cases hc : cut = 0 ∨ n' = 0
  · rw [if_pos hc]
    have hz : cut = 0 → (ind (l.drop k) col').1 = 0 := fun h => by rw [h3 h]
    refine ⟨_, _, rfl, ⟨by omega, by omega, ?_, by rw [List.length_drop]; omega⟩⟩
    rw [List.drop_drop, h2]
  · rw [if_neg hc]
    have hc1 : cut ≠ 0 := fun h => hc (.inl h)
    have hc2 : n' ≠ 0 := fun h => hc (.inr h)
    obtain ⟨x, r, e1, e2⟩ := h4 hc1
    have hlt := (g5 hc1).2
    have e3 : l.drop (k + 1) = r := by rw [← List.drop_drop, e1]; rfl
    have e4 : ind (l.drop k) col' = (cut + (ind r (col' + cut)).1, (ind r (col' + cut)).2 + 1) := by rw [e1, ind, e2, if_neg hc1]
    rw [e4] at h1 h2
    have e5 : ind (List.replicate (cut - n') 32 ++ r) (col' + n') = ((cut - n') + (ind r (col' + cut)).1, (cut - n') + (ind r (col' + cut)).2) := by
      rw [ind_sp, show col' + n' + (cut - n') = col' + cut by omega]
    refine ⟨List.replicate (cut - n') 32 ++ r, col' + n', by rw [e3]; rfl, ⟨by simp only [] at h1; omega, by rw [e5]; simp only [] at h1 ⊢; omega, ?_, ?_⟩⟩
    · rw [e5, List.drop_append, List.drop_eq_nil_of_le (by simp), List.length_replicate, List.nil_append, show cut - n' + (ind r (col' + cut)).2 - (cut - n') = (ind r (col' + cut)).2 by omega, h2, show k + ((ind r (col' + cut)).2 + 1) = (k + 1) + (ind r (col' + cut)).2 by omega, ← List.drop_drop, e3]
    · have := congrArg List.length e1
      rw [List.length_drop, List.length_cons] at this
      rw [List.length_append, List.length_replicate]
      omega
theorem ind_len (l : List UInt8) (c : Nat) : (ind l c).2 ≤ l.length := (ind_le l c).1
theorem and_mask (n : Int) (m k : Nat) (hk : m = 2 ^ k - 1) (hm : m < 4294967296) : ∃ r : Nat, bits .and .i64 n (m : Int) = (r : Int) ∧ r ≤ m := by
  have h1 : (BitVec.ofInt 64 (m : Int)).toNat = m := by rw [BitVec.ofInt_natCast, BitVec.toNat_ofNat]; exact Nat.mod_eq_of_lt (by omega)
  have h2 : (BitVec.ofInt 64 n &&& BitVec.ofInt 64 (m : Int)).toNat ≤ m := by rw [BitVec.toNat_and, h1]; exact Nat.and_le_right
  refine ⟨_, ?_, h2⟩
  show IntKind.i64.wrap ((BitVec.ofInt 64 n &&& BitVec.ofInt 64 (m : Int)).toNat : Int) = _
  exact IntWalk.i64_in _ (by omega)
/-- The white space of the layer. -/
def ws : List UInt8 := [32, 9, 10, 11, 12, 13]
def tl (l : List UInt8) : List UInt8 := l.dropWhile (ws.contains ·)
def tr (l : List UInt8) : List UInt8 := (l.reverse.dropWhile (ws.contains ·)).reverse
theorem dw_len {p : UInt8 → Bool} : ∀ l : List UInt8, (l.dropWhile p).length ≤ l.length
  | [] => by simp
  | x :: t => by
    rw [List.dropWhile_cons]
    have := dw_len (p := p) t
    split
    · rw [List.length_cons]; omega
    · exact Nat.le_refl _
theorem tl_len (l : List UInt8) : (tl l).length ≤ l.length := dw_len l
theorem tr_len (l : List UInt8) : (tr l).length ≤ l.length := by
  unfold tr
  rw [List.length_reverse]
  have := dw_len (p := (ws.contains ·)) l.reverse
  rw [List.length_reverse] at this
  exact this
theorem dw_all {p : UInt8 → Bool} : ∀ l m : List UInt8, l.all p = true → (l ++ m).dropWhile p = m.dropWhile p
  | [], _, _ => rfl
  | x :: t, m, h => by
    rw [List.all_cons, Bool.and_eq_true] at h
    rw [List.cons_append, List.dropWhile_cons, if_pos h.1]
    exact dw_all t m h.2
theorem dw_not {p : UInt8 → Bool} : ∀ l m : List UInt8, l.all p = false → (l ++ m).dropWhile p = l.dropWhile p ++ m
  | [], _, h => by simp at h
  | x :: t, m, h => by
    rw [List.cons_append, List.dropWhile_cons, List.dropWhile_cons]
    by_cases hx : p x = true
    · rw [if_pos hx, if_pos hx]
      rw [List.all_cons, hx, Bool.true_and] at h
      exact dw_not t m h
    · rw [if_neg hx, if_neg hx]
      rfl
theorem dw_nil {p : UInt8 → Bool} (l : List UInt8) (h : l.all p = true) : l.dropWhile p = [] := by
  have := dw_all l [] h
  rwa [List.append_nil] at this
theorem all_rev {p : UInt8 → Bool} (l : List UInt8) : l.reverse.all p = l.all p := by simp
/-- A text is white space, what is left of it, and white space. -/
theorem dw_split {p : UInt8 → Bool} : ∀ l : List UInt8, ∃ a, l = a ++ l.dropWhile p ∧ a.all p = true
  | [] => ⟨[], rfl, rfl⟩
  | x :: t => by
    by_cases hx : p x = true
    · obtain ⟨a, e, h⟩ := dw_split (p := p) t
      rw [List.dropWhile_cons, if_pos hx]
      exact ⟨x :: a, by rw [List.cons_append, ← e], by rw [List.all_cons, hx, h]; rfl⟩
    · rw [List.dropWhile_cons, if_neg hx]
      exact ⟨[], rfl, rfl⟩
theorem dw_head {p : UInt8 → Bool} : ∀ l : List UInt8, l.dropWhile p = [] ∨ ∃ x t, l.dropWhile p = x :: t ∧ p x = false
  | [] => .inl rfl
  | x :: t => by
    by_cases hx : p x = true
    · rw [List.dropWhile_cons, if_pos hx]
      exact dw_head t
    · rw [List.dropWhile_cons, if_neg hx]
      exact .inr ⟨x, t, rfl, by simpa using hx⟩
theorem tl_tr (l : List UInt8) : tl (tr l) = tr (tl l) := by
  obtain ⟨a, e, ha⟩ := dw_split (p := (ws.contains ·)) l
  unfold tl tr
  generalize hq : l.dropWhile (ws.contains ·) = q at e
  subst e
  rcases (hq ▸ dw_head (p := (ws.contains ·)) (a ++ q)) with h0 | ⟨x, t, hx, hp⟩
  · rw [h0, List.append_nil, dw_nil a.reverse (by rw [all_rev]; exact ha)]
    rfl
  · subst hx
    have hf : (x :: t).reverse.all (ws.contains ·) = false := by rw [all_rev, List.all_cons, hp]; rfl
    rw [List.reverse_append, dw_not _ _ hf, List.reverse_append, List.reverse_reverse, dw_all _ _ ha]
    obtain ⟨b, e2, hb⟩ := dw_split (p := (ws.contains ·)) (x :: t).reverse
    generalize hr : (x :: t).reverse.dropWhile (ws.contains ·) = r at e2
    have e3 : x :: t = r.reverse ++ b.reverse := by rw [← List.reverse_append, ← e2, List.reverse_reverse]
    cases hrr : r.reverse with
    | nil =>
      rw [hrr, List.nil_append] at e3
      have : b.reverse.all (ws.contains ·) = true := by rw [all_rev]; exact hb
      rw [← e3, List.all_cons, hp] at this
      cases this
    | cons y s =>
      rw [hrr] at e3
      have : y = x := (List.cons.inj e3).1.symm
      subst this
      rw [List.dropWhile_cons, if_neg (by rw [hp]; decide)]
theorem dw_idem {p : UInt8 → Bool} (l : List UInt8) : (l.dropWhile p).dropWhile p = l.dropWhile p := by
  rcases dw_head (p := p) l with h | ⟨x, t, h, hp⟩
  · rw [h]; rfl
  · rw [h, List.dropWhile_cons, if_neg (by rw [hp]; decide)]
theorem tl_idem (l : List UInt8) : tl (tl l) = tl l := dw_idem l
theorem tr_idem (l : List UInt8) : tr (tr l) = tr l := by unfold tr; rw [List.reverse_reverse, dw_idem]
theorem tl_pre (a l : List UInt8) (h : a.all (ws.contains ·) = true) : tl (a ++ l) = tl l := dw_all a l h
theorem tr_suf (a l : List UInt8) (h : a.all (ws.contains ·) = true) : tr (l ++ a) = tr l := by
  unfold tr
  rw [List.reverse_append, dw_all _ _ (by rw [all_rev]; exact h)]
end Go.Proofs.YtjjpfkfdcbipjaaDoor.Pl
