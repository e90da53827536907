/-
  Facts on lines and on cleaning, on lists of bytes alone. No condition.
-/
import Derived.Test.YtondbckghchmpaaDoorPLines2
namespace Go.Proofs.YtondbckghchmpaaDoor.Pl
open Go.RowKit Go.Proofs.YtondbckghchmpaaDoorW.PrintWords Go.Proofs.YtondbckghchmpaaDoorW.PrintMore

theorem brk_none : ∀ l : List UInt8, (∀ x ∈ l, x ≠ 10 ∧ x ≠ 13) → brk l = (l, [])
  | [], _ => rfl
  | x :: t, h => by
    have hx := h x (List.mem_cons_self ..)
    have ih := brk_none t (fun y hy => h y (List.mem_cons_of_mem _ hy))
    unfold brk
    rw [if_neg hx.1, if_neg hx.2, ih]
theorem brk_lf : ∀ (l r : List UInt8), (∀ x ∈ l, x ≠ 10 ∧ x ≠ 13) → brk (l ++ 10 :: r) = (l, r)
  | [], r, _ => by simp [brk]
  | x :: t, r, h => by
    have hx := h x (List.mem_cons_self ..)
    have ih := brk_lf t r (fun y hy => h y (List.mem_cons_of_mem _ hy))
    rw [List.cons_append]
    unfold brk
    rw [if_neg hx.1, if_neg hx.2, ih]
theorem lines_clean (l : List UInt8) : ∀ m ∈ lines l, ∀ x ∈ m, x ≠ 10 ∧ x ≠ 13 := by
  suffices ∀ n (l : List UInt8), l.length ≤ n → ∀ m ∈ lines l, ∀ x ∈ m, x ≠ 10 ∧ x ≠ 13 from this _ l (Nat.le_refl _)
  intro n
  induction n with
  | zero =>
    intro l hl m hm
    have : l = [] := List.length_eq_zero_iff.1 (by omega)
    subst this
    cases hm
  | succ n ih =>
    intro l hl m hm
    by_cases h0 : l = []
    · subst h0
      cases hm
    · have hb := brk_len l h0
      rw [lines_cons l h0] at hm
      rcases List.mem_cons.1 hm with rfl | hm
      · exact (brk_spec l).1
      · exact ih _ (by omega) m hm
theorem lines_le (l : List UInt8) : (lines l).length ≤ l.length := by
  suffices ∀ n (x : List UInt8), x.length ≤ n → (lines x).length ≤ x.length from this _ l (Nat.le_refl _)
  intro n
  induction n with
  | zero =>
    intro x hx
    have : x = [] := List.length_eq_zero_iff.1 (by omega)
    subst this
    simp [lines_nil]
  | succ n ih =>
    intro x hx
    by_cases h0 : x = []
    · subst h0; simp [lines_nil]
    · have hb := brk_len x h0
      rw [lines_cons x h0, List.length_cons]
      have := ih (brk x).2 (by omega)
      omega
/-- Lines without ends, each with an LF behind it, have just these lines. -/
theorem lines_join : ∀ m : List (List UInt8), (∀ l ∈ m, ∀ x ∈ l, x ≠ 10 ∧ x ≠ 13) → lines (joinB (m.map B)) = m
  | [], _ => rfl
  | l :: m, h => by
    have ih := lines_join m (fun y hy => h y (List.mem_cons_of_mem _ hy))
    have e : joinB ((l :: m).map B) = l ++ 10 :: joinB (m.map B) := by
      show ((B l).data.toList ++ [10]) ++ joinB (m.map B) = _
      rw [B_data, List.append_assoc]
      rfl
    rw [e, lines_cons _ (by simp), brk_lf _ _ (h l (List.mem_cons_self ..)), ih]
theorem join_lines_len (l : List UInt8) : (joinB ((lines l).map B)).length ≤ 2 * l.length := by
  suffices ∀ n (l : List UInt8), l.length ≤ n → (joinB ((lines l).map B)).length ≤ 2 * l.length from this _ l (Nat.le_refl _)
  intro n
  induction n with
  | zero =>
    intro l hl
    have : l = [] := List.length_eq_zero_iff.1 (by omega)
    subst this
    simp [lines_nil, joinB]
  | succ n ih =>
    intro l hl
    by_cases h0 : l = []
    · subst h0; simp [lines_nil, joinB]
    · have hb := brk_len l h0
      have ih := ih (brk l).2 (by omega)
      have hp := List.length_pos_iff.2 h0
      have hs : (brk l).1.length + (brk l).2.length ≤ l.length := by
        obtain ⟨_, h⟩ := brk_spec l
        rcases h with ⟨a1, a2, _⟩ | ⟨h, _, _, b⟩
        · rw [a1, a2]; simp
        · rcases b with ⟨_, e⟩ | ⟨_, ⟨h2, _, e⟩ | ⟨_, e⟩⟩ <;> rw [e, List.length_drop] <;> omega
      have hs2 : (brk l).1.length + (brk l).2.length + 1 ≤ 2 * l.length - 2 * (brk l).2.length + (brk l).2.length := by omega
      have e : joinB ((lines l).map B) = ((brk l).1 ++ [10]) ++ joinB ((lines (brk l).2).map B) := by
        rw [lines_cons l h0]
        show ((B (brk l).1).data.toList ++ [10]) ++ _ = _
        rw [B_data]
        rfl
      rw [e, List.length_append, List.length_append]
      simp only [List.length_cons, List.length_nil]
      omega

/-- A text that ends in an LF: what stands behind it begins anew. -/
theorem brk_app (q : List UInt8) : ∀ u : List UInt8, u.getLast? = some 10 → brk (u ++ q) = ((brk u).1, (brk u).2 ++ q) ∧ ((brk u).2 = [] ∨ (brk u).2.getLast? = some 10)
  | [], h => by cases h
  | [x], h => by
    have : x = 10 := by simpa using h
    subst this
    simp [brk]
  | x :: y :: t, h => by
    have h' : (y :: t).getLast? = some 10 := by simpa using h
    obtain ⟨i1, i2⟩ := brk_app q (y :: t) h'
    by_cases h10 : x = 10
    · subst h10
      simp only [brk, List.cons_append, if_true]
      exact ⟨trivial, .inr h'⟩
    · by_cases h13 : x = 13
      · subst h13
        have e1 : brk (13 :: y :: t) = ([], if y = 10 then t else y :: t) := by simp [brk]
        have e2 : brk ((13 :: y :: t) ++ q) = ([], if y = 10 then t ++ q else y :: t ++ q) := by simp [brk]
        rw [e1, e2]
        by_cases hy : y = 10
        · subst hy
          refine ⟨by simp, ?_⟩
          cases t with
          | nil => exact .inl (by simp)
          | cons z t => exact .inr (by simpa using h')
        · exact ⟨by simp [hy], .inr (by simp only [if_neg hy]; exact h')⟩
      · have e1 : brk (x :: y :: t) = (x :: (brk (y :: t)).1, (brk (y :: t)).2) := by rw [brk, if_neg h10, if_neg h13]
        have e2 : brk ((x :: y :: t) ++ q) = (x :: (brk (y :: t ++ q)).1, (brk (y :: t ++ q)).2) := by rw [List.cons_append, brk, if_neg h10, if_neg h13]
        rw [e1, e2, i1]
        exact ⟨rfl, i2⟩
theorem lines_app (q : List UInt8) (u : List UInt8) (h : u = [] ∨ u.getLast? = some 10) : lines (u ++ q) = lines u ++ lines q := by
  suffices ∀ n (u : List UInt8), u.length ≤ n → (u = [] ∨ u.getLast? = some 10) → lines (u ++ q) = lines u ++ lines q from this _ u (Nat.le_refl _) h
  intro n
  induction n with
  | zero =>
    intro u hu _
    have : u = [] := List.length_eq_zero_iff.1 (by omega)
    subst this
    rfl
  | succ n ih =>
    intro u hu h
    by_cases h0 : u = []
    · subst h0; rfl
    · have h' := h.resolve_left h0
      obtain ⟨b1, b2⟩ := brk_app q u h'
      have hb := brk_len u h0
      rw [lines_cons u h0, lines_cons (u ++ q) (by simp [h0]), b1]
      simp only
      rw [ih (brk u).2 (by omega) b2]
      rfl

/-- An ASCII byte behind bytes does not turn how they are read. -/
theorem dec_ascii (c : UInt8) (hc : c.toNat < 128) (r : List UInt8) : ∀ l : List UInt8, l ≠ [] → dec (l ++ c :: r) = dec l := by
  intro l h
  have hcc : ¬ c.toNat / 64 = 2 := by omega
  rw [dec_eq l h, dec_eq (l ++ c :: r) (by simp)]
  match l, h with
  | [a], _ => simp [Lib.decodeN, hcc]
  | [a, b], _ => simp [Lib.decodeN, hcc]
  | [a, b, d], _ => simp [Lib.decodeN, hcc]
  | a :: b :: d :: e :: t, _ => simp [Lib.decodeN]
theorem clean_ascii (c : UInt8) (hc : c.toNat < 128) (h0 : c ≠ 0) (r : List UInt8) : clean (c :: r) = c :: clean r := by
  have hd : (dec (c :: r)).2 = 1 := by
    rw [dec_eq _ (by simp)]
    simp [Lib.decodeN, hc]
  rw [clean_good c r (fun h => h.elim h0 (fun e => by have := e.2; omega)), hd]
  rfl
theorem clean_app (c : UInt8) (hc : c.toNat < 128) (r : List UInt8) (l : List UInt8) : clean (l ++ c :: r) = clean l ++ clean (c :: r) := by
  suffices ∀ n (l : List UInt8), l.length ≤ n → clean (l ++ c :: r) = clean l ++ clean (c :: r) from this _ l (Nat.le_refl _)
  intro n
  induction n with
  | zero =>
    intro l hl
    have : l = [] := List.length_eq_zero_iff.1 (by omega)
    subst this
    rfl
  | succ n ih =>
    intro l hl
    cases l with
    | nil => rfl
    | cons x t =>
      have hd := dec_ascii c hc r (x :: t) (by simp)
      have hn := dec_len (x :: t) (by simp)
      simp only [List.length_cons] at hl hn
      rw [List.cons_append] at hd ⊢
      by_cases hb : x = 0 ∨ ((dec (x :: t)).2 = 1 ∧ 128 ≤ x.toNat)
      · rw [clean_bad x t hb, clean_bad x (t ++ c :: r) (by rw [hd]; exact hb), ih t (by omega), List.append_assoc]
      · rw [clean_good x t hb, clean_good x (t ++ c :: r) (by rw [hd]; exact hb), hd, ← List.cons_append, List.take_append_of_le_length (by simp; omega), List.drop_append_of_le_length (by simp; omega)]
        rw [ih ((x :: t).drop (dec (x :: t)).2) (by simp; omega), List.append_assoc]
end Go.Proofs.YtondbckghchmpaaDoor.Pl
