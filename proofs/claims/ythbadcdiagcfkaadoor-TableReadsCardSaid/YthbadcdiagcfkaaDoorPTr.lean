/-
  The reference's trimming, in plain words. Condition: a text of at most 2^30 bytes.
-/
import Derived.Test.YthbadcdiagcfkaaDoorPBase
import Derived.Test.YthbadcdiagcfkaaDoorPAx3
import Derived.Lib.SlTrimSet
import Derived.KernelRfl
namespace Go.Proofs.YthbadcdiagcfkaaDoor.Pl
open Go.RowKit Go.Proofs.YthbadcdiagcfkaaDoorW.PrintWords Go.Proofs.YthbadcdiagcfkaaDoorW.PrintMore

/-- The white space of the layer. -/
def ws : List UInt8 := [32, 9, 10, 11, 12, 13]
def tl (l : List UInt8) : List UInt8 := l.dropWhile (ws.contains ·)
def tr (l : List UInt8) : List UInt8 := (l.reverse.dropWhile (ws.contains ·)).reverse
theorem dw_len {p : UInt8 → Bool} : ∀ l : List UInt8, (l.dropWhile p).length ≤ l.length
  | [] => by simp
  | x :: t => by
    rw [List.dropWhile_cons]
    have := dw_len (p := p) t
    split
    · rw [List.length_cons]; omega
    · exact Nat.le_refl _
theorem tl_len (l : List UInt8) : (tl l).length ≤ l.length := dw_len l
theorem tr_len (l : List UInt8) : (tr l).length ≤ l.length := by
  unfold tr
  rw [List.length_reverse]
  have := dw_len (p := (ws.contains ·)) l.reverse
  rw [List.length_reverse] at this
  exact this
theorem dw_all {p : UInt8 → Bool} : ∀ l m : List UInt8, l.all p = true → (l ++ m).dropWhile p = m.dropWhile p
  | [], _, _ => rfl
  | x :: t, m, h => by
    rw [List.all_cons, Bool.and_eq_true] at h
    rw [List.cons_append, List.dropWhile_cons, if_pos h.1]
    exact dw_all t m h.2
theorem dw_not {p : UInt8 → Bool} : ∀ l m : List UInt8, l.all p = false → (l ++ m).dropWhile p = l.dropWhile p ++ m
  | [], _, h => by simp at h
  | x :: t, m, h => by
    rw [List.cons_append, List.dropWhile_cons, List.dropWhile_cons]
    by_cases hx : p x = true
    · rw [if_pos hx, if_pos hx]
      rw [List.all_cons, hx, Bool.true_and] at h
      exact dw_not t m h
    · rw [if_neg hx, if_neg hx]
      rfl
theorem dw_nil {p : UInt8 → Bool} (l : List UInt8) (h : l.all p = true) : l.dropWhile p = [] := by
  have := dw_all l [] h
  rwa [List.append_nil] at this
theorem all_rev {p : UInt8 → Bool} (l : List UInt8) : l.reverse.all p = l.all p := by simp
/-- A text is white space, what is left of it, and white space. -/
theorem dw_split {p : UInt8 → Bool} : ∀ l : List UInt8, ∃ a, l = a ++ l.dropWhile p ∧ a.all p = true
  | [] => ⟨[], rfl, rfl⟩
  | x :: t => by
    by_cases hx : p x = true
    · obtain ⟨a, e, h⟩ := dw_split (p := p) t
      rw [List.dropWhile_cons, if_pos hx]
      exact ⟨x :: a, by rw [List.cons_append, ← e], by rw [List.all_cons, hx, h]; rfl⟩
    · rw [List.dropWhile_cons, if_neg hx]
      exact ⟨[], rfl, rfl⟩
theorem dw_head {p : UInt8 → Bool} : ∀ l : List UInt8, l.dropWhile p = [] ∨ ∃ x t, l.dropWhile p = x :: t ∧ p x = false
  | [] => .inl rfl
  | x :: t => by
    by_cases hx : p x = true
    · rw [List.dropWhile_cons, if_pos hx]
      exact dw_head t
    · rw [List.dropWhile_cons, if_neg hx]
      exact .inr ⟨x, t, rfl, by simpa using hx⟩
theorem tl_tr (l : List UInt8) : tl (tr l) = tr (tl l) := by
  obtain ⟨a, e, ha⟩ := dw_split (p := (ws.contains ·)) l
  unfold tl tr
  generalize hq : l.dropWhile (ws.contains ·) = q at e
  subst e
  rcases (hq ▸ dw_head (p := (ws.contains ·)) (a ++ q)) with h0 | ⟨x, t, hx, hp⟩
  · rw [h0, List.append_nil, dw_nil a.reverse (by rw [all_rev]; exact ha)]
    rfl
  · subst hx
    have hf : (x :: t).reverse.all (ws.contains ·) = false := by rw [all_rev, List.all_cons, hp]; rfl
    rw [List.reverse_append, dw_not _ _ hf, List.reverse_append, List.reverse_reverse, dw_all _ _ ha]
    obtain ⟨b, e2, hb⟩ := dw_split (p := (ws.contains ·)) (x :: t).reverse
    generalize hr : (x :: t).reverse.dropWhile (ws.contains ·) = r at e2
    have e3 : x :: t = r.reverse ++ b.reverse := by rw [← List.reverse_append, ← e2, List.reverse_reverse]
    cases hrr : r.reverse with
    | nil =>
      rw [hrr, List.nil_append] at e3
      have : b.reverse.all (ws.contains ·) = true := by rw [all_rev]; exact hb
      rw [← e3, List.all_cons, hp] at this
      cases this
    | cons y s =>
      rw [hrr] at e3
      have : y = x := (List.cons.inj e3).1.symm
      subst this
      rw [List.dropWhile_cons, if_neg (by rw [hp]; decide)]
theorem dw_idem {p : UInt8 → Bool} (l : List UInt8) : (l.dropWhile p).dropWhile p = l.dropWhile p := by
  rcases dw_head (p := p) l with h | ⟨x, t, h, hp⟩
  · rw [h]; rfl
  · rw [h, List.dropWhile_cons, if_neg (by rw [hp]; decide)]
theorem tl_idem (l : List UInt8) : tl (tl l) = tl l := dw_idem l
theorem tr_idem (l : List UInt8) : tr (tr l) = tr l := by unfold tr; rw [List.reverse_reverse, dw_idem]
theorem tl_pre (a l : List UInt8) (h : a.all (ws.contains ·) = true) : tl (a ++ l) = tl l := dw_all a l h
theorem tr_suf (a l : List UInt8) (h : a.all (ws.contains ·) = true) : tr (l ++ a) = tr l := by
  unfold tr
  rw [List.reverse_append, dw_all _ _ (by rw [all_rev]; exact h)]
theorem ws_iff (x : UInt8) : ws.contains x = true ↔ ((x.toNat : Int) = 32 ∨ (9 ≤ (x.toNat : Int) ∧ (x.toNat : Int) ≤ 13)) := by
  have h : ∀ y : Fin 256, ws.contains (UInt8.ofNat y.val) = decide (y.val = 32 ∨ (9 ≤ y.val ∧ y.val ≤ 13)) := by decide +kernel
  have h0 := h ⟨x.toNat, x.toNat_lt⟩
  rw [show UInt8.ofNat x.toNat = x from UInt8.ofNat_toNat] at h0
  rw [h0, decide_eq_true_eq]
  show (x.toNat = 32 ∨ (9 ≤ x.toNat ∧ x.toNat ≤ 13)) ↔ _
  omega
theorem white_f (x : UInt8) : PA.incipitref02_white.f (x.toNat : Int) = some (ws.contains x) := by
  unfold PA.incipitref02_white.f
  have h := ws_iff x
  by_cases h1 : (x.toNat : Int) = 32
  · rw [if_pos h1, h.2 (.inl h1)]
  · rw [if_neg h1]
    by_cases h2 : (x.toNat : Int) ≥ 9
    · rw [if_pos h2]
      by_cases h3 : (x.toNat : Int) ≤ 13
      · rw [decide_eq_true h3, h.2 (.inr ⟨h2, h3⟩)]
      · rw [decide_eq_false h3]
        have : ¬ ws.contains x = true := fun e => by rcases h.1 e with e | e <;> omega
        rw [Bool.not_eq_true] at this
        rw [this]
    · rw [if_neg h2]
      have : ¬ ws.contains x = true := fun e => by rcases h.1 e with e | e <;> omega
      rw [Bool.not_eq_true] at this
      rw [this]
theorem reft_l : ∀ (l : List UInt8) (j : Nat), l.length < 1073741824 → PA.incipitref02_TrimLeft.l0 (j + l.length + 1) (B l) = some (B (tl l))
  | [], j, _ => by
    simp only [PA.incipitref02_TrimLeft.l0]
    rw [if_neg (by rw [B_size]; simp)]
    rfl
  | x :: t, j, h => by
    have ih := reft_l t j (by rw [List.length_cons] at h; omega)
    have e0 : bt (B (x :: t)) 0 = (x.toNat : Int) := B_bt (x :: t) 0 (by simp)
    have e1 : (B (x :: t)).extract 1 (B (x :: t)).size = B t := B_from (x :: t) 1 _ (B_size _)
    have hz : ((B (x :: t)).size : Int) > 0 := by rw [B_size, List.length_cons]; omega
    show PA.incipitref02_TrimLeft.l0 (j + t.length + 1 + 1) (B (x :: t)) = _
    rw [PA.incipitref02_TrimLeft.l0, if_pos hz, if_pos hz, e0, white_f, Option.bind_some, e1]
    unfold tl
    rw [List.dropWhile_cons]
    by_cases hw : ws.contains x = true
    · rw [if_pos hw, if_pos hw, if_pos (by omega)]
      exact ih
    · rw [if_neg hw, if_neg hw]
theorem reft_r : ∀ (n : Nat) (l : List UInt8) (j : Nat), l.length = n → n < 1073741824 → PA.incipitref02_TrimRight.l0 (j + n + 1) (B l) = some (B (tr l))
  | 0, l, j, h, _ => by
    obtain rfl := List.length_eq_zero_iff.1 h
    simp only [PA.incipitref02_TrimRight.l0]
    rw [if_neg (by rw [B_size]; simp)]
    rfl
  | n + 1, l, j, h, hn => by
    have hl : l.take n ++ [l[n]'(by omega)] = l := by
      rw [List.take_append_getElem, List.take_of_length_le (by omega)]
    have ih := reft_r n (l.take n) j (by rw [List.length_take]; omega) (by omega)
    have hz : ((B l).size : Int) > 0 := by rw [B_size]; omega
    have e2 : wrap64 (((B l).size : Int) - 1) = (n : Int) := by rw [B_size, w64 (by omega) (by omega)]; omega
    have e0 : bt (B l) (n : Int) = ((l[n]'(by omega)).toNat : Int) := B_bt l n (by omega)
    have e1 : (B l).extract 0 n = B (l.take n) := B_to l n
    show PA.incipitref02_TrimRight.l0 (j + n + 1 + 1) (B l) = _
    rw [PA.incipitref02_TrimRight.l0, if_pos hz, e2, if_pos (by omega), if_pos (by rw [B_size]; omega), e0, white_f, Option.bind_some]
    by_cases hw : ws.contains (l[n]'(by omega)) = true
    · rw [if_pos hw, if_pos (by rw [B_size]; omega), Int.toNat_natCast, e1, ih]
      have := tr_suf [l[n]'(by omega)] (l.take n) (by rw [List.all_cons, hw]; rfl)
      rw [hl] at this
      rw [this]
    · rw [if_neg hw]
      have : tr l = l := by
        unfold tr
        conv => lhs; rw [← hl]
        rw [List.reverse_append, List.reverse_singleton, List.singleton_append, List.dropWhile_cons, if_neg hw, List.reverse_cons, List.reverse_reverse, hl]
      rw [this]
theorem reft_lev (l : List UInt8) (h : l.length ≤ 1048576) : Ev (fun k => PA.incipitref02_TrimLeft.f k (B l)) (B (tl l)) :=
  Ev.of (k := 0 + l.length + 1) (PA.incipitref02_TrimLeft.mono (B l)) (reft_l l 0 (by omega))
theorem reft_rev (l : List UInt8) (h : l.length ≤ 1048576) : Ev (fun k => PA.incipitref02_TrimRight.f k (B l)) (B (tr l)) :=
  Ev.of (k := 0 + l.length + 1) (PA.incipitref02_TrimRight.mono (B l)) (reft_r _ l 0 rfl (by omega))
end Go.Proofs.YthbadcdiagcfkaaDoor.Pl
