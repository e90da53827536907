/-
  The law LinkEnds holds: for every input it answers true, its arguments read behind the call as before. Conditions: the listed package-level variables as the program's text lays them (tied by the card).
-/
import Derived.Test.YtjobchgncdgfaaaGreatDoorSLinkEnds2
import Derived.Test.YtjobchgncdgfaaaGreatDoorSLinkEnds1
namespace Go.Proofs.YtjobchgncdgfaaaGreatDoor.Pure
open Go.RowKit Go.Proofs.YtjobchgncdgfaaaGreatDoorW.PrintWords Go.Proofs.YtjobchgncdgfaaaGreatDoorW.PrintMore Go.Proofs.YtjobchgncdgfaaaGreatDoor.Pl Go.Proofs.YtjobchgncdgfaaaGreatDoor.PA

theorem each_dec (p : UInt8 → Bool) (hp : p 92 = false) (t : List UInt8) (y : UInt8) (u : List UInt8) (h : t.drop (eachL p t) = y :: u) :
    ∃ a, t = a ++ y :: u ∧ (∀ m, eachL p (a ++ y :: m) = a.length) ∧ eachL p a = a.length ∧ p y = true := by
  have hlt := drop_lt h
  have hl : (t.take (eachL p t)).length = eachL p t := by rw [List.length_take]; omega
  have ht : t = t.take (eachL p t) ++ y :: u := by rw [← h, List.take_append_drop]
  have hy : t[eachL p t] = y := by
    rw [List.drop_eq_getElem_cons hlt] at h
    exact (List.cons.inj h).1
  have ht1 : t.take (eachL p t + 1) = t.take (eachL p t) ++ [y] := by rw [← hy]; exact (List.take_append_getElem hlt).symm
  refine ⟨t.take (eachL p t), ht, fun m => ?_, ?_, each_at p t y u h⟩
  · have e := each_st p hp t (eachL p t + 1) m (by omega) hlt
    rw [ht1, List.append_assoc] at e
    rw [hl]
    exact e
  · rw [each_self p t (eachL_le p t), hl]
theorem lab_dec (s : List UInt8) (h : 0 < (lab s).2) : ∃ a y u, s = 91 :: (a ++ y :: u) ∧ (∀ m, lab (91 :: (a ++ y :: m)) = (a, a.length + 2)) ∧ lab (91 :: a) = ([], 0) ∧ y = 93 := by
  cases s with
  | nil => exact absurd h (Nat.lt_irrefl 0)
  | cons x t =>
    by_cases hx : x = 91
    · subst hx
      cases hd : t.drop (eachL pLab t) with
      | nil =>
        exfalso
        rw [lab_cons, if_pos rfl, hd] at h
        exact absurd h (Nat.lt_irrefl 0)
      | cons y u =>
        obtain ⟨a, ht, h1, h2, h3⟩ := each_dec pLab pLab_92 t y u hd
        have hg : ¬ (y = 91 ∨ 999 < a.length ∨ wht a = a.length) := by
          intro hc
          rw [ht, lab_at a u y (h1 u), if_pos hc] at h
          exact absurd h (Nat.lt_irrefl 0)
        refine ⟨a, y, u, by rw [ht], fun m => by rw [lab_at a m y (h1 m), if_neg hg], ?_, ?_⟩
        · rw [lab_cons, if_pos rfl, h2, List.drop_length]
        · unfold pLab at h3
          simp only [Bool.or_eq_true, decide_eq_true_eq] at h3
          rcases h3 with h3 | h3
          · exact absurd (.inl h3) hg
          · exact h3
    · rw [lab_no x t hx] at h
      exact absurd h (Nat.lt_irrefl 0)
theorem ttl_at (q : UInt8) (a t : List UInt8) (y c : UInt8) (hc : ∀ r, cls (q :: r) = c) (h0 : c ≠ 0) (he : eachL (pTit c) (a ++ y :: t) = a.length) :
    ttl (q :: (a ++ y :: t)) = if y = c then (if gp false a = true then ([], 0) else (une a, a.length + 2)) else ([], 0) := by
  rw [ttl_cons, hc, if_neg h0, he, List.drop_left' rfl, List.take_left' rfl]
theorem ttl_dec (s : List UInt8) (h : 0 < (ttl s).2) : ∃ q a y u, s = q :: (a ++ y :: u) ∧ (∀ m, ttl (q :: (a ++ y :: m)) = (une a, a.length + 2)) ∧ ttl (q :: a) = ([], 0) := by
  cases s with
  | nil => exact absurd h (Nat.lt_irrefl 0)
  | cons q t =>
    obtain ⟨c, hc⟩ : ∃ c, ∀ r, cls (q :: r) = c := ⟨_, fun r => cls_cons q r⟩
    by_cases h0 : c = 0
    · exfalso
      rw [ttl_cons, hc, if_pos h0] at h
      exact absurd h (Nat.lt_irrefl 0)
    · have h92 : c ≠ 92 := by rw [← hc []]; exact cls_ne _
      cases hd : t.drop (eachL (pTit c) t) with
      | nil =>
        exfalso
        rw [ttl_cons, hc, if_neg h0, hd] at h
        exact absurd h (Nat.lt_irrefl 0)
      | cons y u =>
        obtain ⟨a, ht, h1, h2, h3⟩ := each_dec (pTit c) (pTit_92 c h92) t y u hd
        have hy : y = c := by
          apply Classical.byContradiction
          intro hn
          rw [ht, ttl_at q a u y c hc h0 (h1 u), if_neg hn] at h
          exact absurd h (Nat.lt_irrefl 0)
        have hg : ¬ gp false a = true := by
          intro hn
          rw [ht, ttl_at q a u y c hc h0 (h1 u), if_pos hy, if_pos hn] at h
          exact absurd h (Nat.lt_irrefl 0)
        refine ⟨q, a, y, u, by rw [ht], fun m => by rw [ttl_at q a m y c hc h0 (h1 m), if_pos hy, if_neg hg], ?_⟩
        rw [ttl_cons, hc, if_neg h0, h2, List.drop_length]
theorem take_dec (q y : UInt8) (a u m : List UInt8) (j : Nat) (hj : a.length + 2 ≤ j) : (q :: (a ++ y :: u)).take j ++ m = q :: (a ++ y :: (u.take (j - (a.length + 2)) ++ m)) := by
  obtain ⟨i, rfl⟩ : ∃ i, j = i + 1 := ⟨j - 1, by omega⟩
  rw [List.take_succ_cons, List.take_append, List.take_of_length_le (by omega)]
  obtain ⟨k, hk⟩ : ∃ k, i - a.length = k + 1 := ⟨i - a.length - 1, by omega⟩
  rw [hk, List.take_succ_cons, show i + 1 - (a.length + 2) = k by omega]
  simp
theorem ttl_st (s m : List UInt8) (j : Nat) (h : 0 < (ttl s).2) (h1 : (ttl s).2 ≤ j) : ttl (s.take j ++ m) = ttl s := by
  obtain ⟨q, a, y, u, rfl, h2, h3⟩ := ttl_dec s h
  rw [h2 u] at h1 ⊢
  rw [take_dec q y a u m j h1, h2]
theorem ang_st (s m : List UInt8) (j : Nat) (h : 0 < (ang s).2.1) (h1 : (ang s).2.1 ≤ j) : dst ((60 :: s).take j ++ m) = dst (60 :: s) := by
  have e : ∀ t : List UInt8, dst (60 :: t) = ang t := fun t => if_pos rfl
  have ea : ∀ t : List UInt8, ang t = match t.drop (eachL pAng t) with
      | [] => ([], 0, false)
      | y :: _ => if y = 62 then (une (t.take (eachL pAng t)), eachL pAng t + 2, true) else ([], 0, false) := fun _ => rfl
  cases hd : s.drop (eachL pAng s) with
  | nil =>
    rw [ea, hd] at h
    exact absurd h (Nat.lt_irrefl 0)
  | cons y u =>
    obtain ⟨a, ht, h2, _, _⟩ := each_dec pAng pAng_92 s y u hd
    have hat : ∀ r, ang (a ++ y :: r) = if y = 62 then (une a, a.length + 2, true) else ([], 0, false) := by
      intro r
      rw [ea, h2 r, List.drop_left' rfl, List.take_left' rfl]
    rw [ht, hat] at h h1
    by_cases hy : y = 62
    · rw [if_pos hy] at h1
      rw [ht, take_dec 60 y a u m j h1, e, e, hat, hat]
    · rw [if_neg hy] at h
      exact absurd h (Nat.lt_irrefl 0)
theorem dst_st (s m : List UInt8) (j : Nat) (h : 0 < (dst s).2.1) (h1 : (dst s).2.1 < j) (hj : j ≤ s.length) : dst (s.take j ++ m) = dst s := by
  by_cases h60 : s.head? = some 60
  · obtain ⟨t, rfl⟩ : ∃ t, s = 60 :: t := by
      cases s with
      | nil => cases h60
      | cons x t => exact ⟨t, by rw [Option.some.inj h60]⟩
    have e : dst (60 :: t) = ang t := if_pos rfl
    rw [e] at h h1
    exact ang_st t m j h (Nat.le_of_lt h1)
  · have e : ∀ t : List UInt8, t.head? ≠ some 60 → dst t = if (dstL t 0 false).1 = 0 ∨ 0 < (dstL t 0 false).2.1 ∨ (dstL t 0 false).2.2 = true then ([], 0, false) else (une (t.take (dstL t 0 false).1), (dstL t 0 false).1, true) := fun t ht => if_neg ht
    have hh : (s.take j ++ m).head? ≠ some 60 := by
      cases s with
      | nil => simp at hj; omega
      | cons x t =>
        obtain ⟨i, rfl⟩ : ∃ i, j = i + 1 := ⟨j - 1, by omega⟩
        exact h60
    rw [e s h60] at h h1
    rw [e _ hh, e s h60]
    by_cases hc : (dstL s 0 false).1 = 0 ∨ 0 < (dstL s 0 false).2.1 ∨ (dstL s 0 false).2.2 = true
    · rw [if_pos hc] at h
      exact absurd h (Nat.lt_irrefl 0)
    · rw [if_neg hc] at h1
      have h3 : (dstL s 0 false).1 < j := h1
      rw [dstL_st s 0 false j m h3 hj, if_neg hc, if_neg hc, List.take_append_of_le_length (by rw [List.length_take]; omega), List.take_take, Nat.min_eq_left (by omega)]
theorem dst_close (t : List UInt8) : dst (41 :: t) = ([], 0, false) := by
  have hl : dstL (41 :: t) 0 false = (0, 0, false) := by rw [dst_one 41 t 0 false (fun e => absurd e (by decide)), if_pos (by decide)]
  have e : dst (41 :: t) = if (dstL (41 :: t) 0 false).1 = 0 ∨ 0 < (dstL (41 :: t) 0 false).2.1 ∨ (dstL (41 :: t) 0 false).2.2 = true then ([], 0, false) else (une ((41 :: t).take (dstL (41 :: t) 0 false).1), (dstL (41 :: t) 0 false).1, true) := if_neg (by intro e; exact absurd (Option.some.inj e) (by decide))
  rw [e, hl, if_pos (.inl rfl)]
theorem ttl_close (t : List UInt8) : ttl (41 :: t) = ([], 0) := by rw [ttl_cons]; exact if_pos (show cls (41 :: t) = 0 from rfl)
theorem drop_st (s m : List UInt8) (n i : Nat) (hn : n ≤ s.length) (hi : i ≤ n) : (s.take n ++ m).drop i = (s.drop i).take (n - i) ++ m := by
  rw [List.drop_append_of_le_length (by rw [List.length_take]; omega), List.drop_take]
theorem tlr_st (s m : List UInt8) (n : Nat) (hn : (tlr s).2.2 = n) (h0 : 0 < n) : tlr (s.take n ++ m) = tlr s ∧ s.head? = some 40 ∧ s[n - 1]? = some 41 := by
  by_cases h40 : s.head? = some 40
  · have hne : s ≠ [] := fun e => by rw [e] at h40; cases h40
    obtain ⟨l1, l2, l3, l4, l5⟩ := a_le s hne
    have et : ∀ r : List UInt8, r.head? = some 40 → tlr r = if (r.drop (a4 r)).head? = some 41 then ((tD r).1, (if tOk r = true then (tT r).1 else []), a4 r + 1) else ([], [], 0) := fun r hr => if_pos hr
    have h41 : (s.drop (a4 s)).head? = some 41 := by
      apply Classical.byContradiction
      intro hc
      rw [et s h40, if_neg hc] at hn
      have : (0 : Nat) = n := hn
      omega
    have hn4 : n = a4 s + 1 := by
      rw [et s h40, if_pos h41] at hn
      exact hn.symm
    obtain ⟨v, hv⟩ : ∃ v, s.drop (a4 s) = 41 :: v := by
      cases hd : s.drop (a4 s) with
      | nil => rw [hd] at h41; cases h41
      | cons y v => rw [hd] at h41; exact ⟨v, by rw [Option.some.inj h41]⟩
    have hlt : a4 s < s.length := drop_lt hv
    have hnl : n ≤ s.length := by omega
    have m1 : 1 ≤ a1 s := by unfold a1; omega
    have m2 : a1 s ≤ a2 s := by unfold a2; omega
    have e3 : tOk s = true → a3 s = a2 s + tG s + (tT s).2 := fun h => by unfold a3; rw [if_pos h]
    have e3' : tOk s = false → a3 s = a2 s := fun h => by unfold a3; rw [if_neg (by rw [h]; decide)]
    have e4 : a4 s = a3 s + wht (s.drop (a3 s)) := rfl
    have m3 : a2 s + tG s ≤ a4 s := by
      cases hk : tOk s with
      | true => have := e3 hk; omega
      | false =>
        have h3 := e3' hk
        rw [h3] at e4
        have : tG s = wht (s.drop (a2 s)) := rfl
        omega
    obtain ⟨S, hS⟩ : ∃ S, s.take n ++ m = S := ⟨_, rfl⟩
    have dr : ∀ i, i ≤ n → S.drop i = (s.drop i).take (n - i) ++ m := fun i hi => by rw [← hS]; exact drop_st s m n i hnl hi
    have hw : ∀ i, i + wht (s.drop i) < n → wht (S.drop i) = wht (s.drop i) := by
      intro i hi
      rw [dr i (by omega)]
      exact wht_st _ _ _ (by omega) (by rw [List.length_drop]; omega)
    have f1 : a1 S = a1 s := by
      unfold a1
      have h1 : a1 s = 1 + wht (s.drop 1) := rfl
      rw [hw 1 (by omega)]
    have hat : ∀ i, i ≤ a4 s → s.drop i = 41 :: v → i = a4 s → ∃ v', S.drop i = 41 :: v' := by
      intro i hi hd _
      rw [dr i (by omega), hd]
      obtain ⟨k, hk⟩ : ∃ k, n - i = k + 1 := ⟨n - i - 1, by omega⟩
      exact ⟨_, by rw [hk, List.take_succ_cons, List.cons_append]⟩
    have f2 : tD S = tD s := by
      have hD : tD S = dst (S.drop (a1 s)) := by unfold tD; rw [f1]
      rw [hD]
      by_cases hz : 0 < (tD s).2.1
      · rw [dr (a1 s) (by omega)]
        exact dst_st _ m _ hz (by have : a2 s = a1 s + (tD s).2.1 := rfl; show (tD s).2.1 < n - a1 s; omega) (by rw [List.length_drop]; omega)
      · have hk : tOk s = false := by rw [tOk_eq, decide_eq_false hz]; rfl
        have ha2 : a2 s = a1 s := by have : a2 s = a1 s + (tD s).2.1 := rfl; omega
        have h3 := e3' hk
        have hw0 : wht (s.drop (a1 s)) = 0 := by
          cases hd : s.drop (a1 s) with
          | nil => rfl
          | cons z r =>
            have e1 : s.drop (a1 s) = (s.drop 1).drop (wht (s.drop 1)) := by rw [List.drop_drop]; rfl
            rw [e1] at hd
            rw [wht_cons, if_neg (by rw [wht_at _ z r hd]; decide)]
        have ha4 : a4 s = a1 s := by rw [e4, h3, ha2, hw0, Nat.add_zero]
        obtain ⟨v', hv'⟩ := hat (a1 s) (by omega) (by rw [← ha4]; exact hv) ha4.symm
        have hDs : tD s = dst (s.drop (a1 s)) := rfl
        rw [hv', hDs, ← ha4, hv, dst_close, dst_close]
    have f3 : a2 S = a2 s := by unfold a2; rw [f1, f2]
    have f4 : tG S = tG s := by
      unfold tG
      rw [f3]
      exact hw (a2 s) (by have : tG s = wht (s.drop (a2 s)) := rfl; omega)
    have f5 : tOk S = tOk s ∧ (tOk s = true → tT S = tT s) := by
      have hT : tT S = ttl (S.drop (a2 s + tG s)) := by unfold tT; rw [f3, f4]
      have hTs : tT s = ttl (s.drop (a2 s + tG s)) := rfl
      cases hk : tOk s with
      | true =>
        have h3 := e3 hk
        have hpos : 0 < (tT s).2 := by
          rw [tOk_eq] at hk
          simp only [Bool.and_eq_true, decide_eq_true_eq] at hk
          exact hk.2.2
        have hTe : tT S = tT s := by
          rw [hT, dr _ (by omega), hTs]
          exact ttl_st _ m _ hpos (by rw [← hTs]; omega)
        refine ⟨?_, fun _ => hTe⟩
        rw [← hk, tOk_eq, tOk_eq, f2, f4, hTe]
      | false =>
        refine ⟨?_, fun h => (by cases h)⟩
        have h3 := e3' hk
        by_cases hz : 0 < (tD s).2.1
        · by_cases hg : 0 < tG s
          · have h4 : a4 s = a2 s + tG s := by rw [e4, h3]; rfl
            obtain ⟨v', hv'⟩ := hat (a2 s + tG s) (by omega) (by rw [← h4]; exact hv) h4.symm
            rw [tOk_eq, hT, hv', ttl_close]
            simp
          · rw [tOk_eq, f2, f4, decide_eq_false hg, Bool.false_and, Bool.and_false]
        · rw [tOk_eq, f2, decide_eq_false hz, Bool.false_and]
    have f6 : a3 S = a3 s := by
      unfold a3
      rw [f5.1, f3, f4]
      cases hk : tOk s with
      | true => rw [if_pos rfl, if_pos rfl, f5.2 hk]
      | false => rfl
    have f7 : a4 S = a4 s := by
      unfold a4
      rw [f6, hw (a3 s) (by omega)]
    obtain ⟨v', hv'⟩ := hat (a4 s) (Nat.le_refl _) hv rfl
    have hS40 : S.head? = some 40 := by
      rw [← hS]
      cases s with
      | nil => cases h40
      | cons x t =>
        obtain ⟨i, rfl⟩ : ∃ i, n = i + 1 := ⟨n - 1, by omega⟩
        exact h40
    refine ⟨?_, h40, ?_⟩
    · rw [hS, et S hS40, et s h40, f7, hv', hv, if_pos (show (41 :: v').head? = some 41 from rfl), if_pos (show (41 :: v).head? = some 41 from rfl), f2, f5.1]
      cases hk : tOk s with
      | true => rw [if_pos rfl, if_pos rfl, f5.2 hk]
      | false => rfl
    · rw [hn4, Nat.add_sub_cancel, ← List.head?_drop, hv]
      rfl
  · have e : tlr s = ([], [], 0) := if_neg h40
    rw [e] at hn
    have : (0 : Nat) = n := hn
    omega
end Go.Proofs.YtjobchgncdgfaaaGreatDoor.Pure

namespace Go.Proofs.YtjobchgncdgfaaaGreatDoor.PA
open Go.RowKit Go.Proofs.YtjobchgncdgfaaaGreatDoorW.PrintWords Go.Proofs.YtjobchgncdgfaaaGreatDoorW.PrintLast Go.Proofs.YtjobchgncdgfaaaGreatDoorW.PrintMore
attribute [local go_sem] max2_int min2_int max_two min_two max_three min_three max_four min_four   -- for this text's walks alone
set_option linter.unusedVariables false
set_option linter.unusedSimpArgs false

/-! ### incipitlaw09_LinkEnds: function 4 -/
mutual
def incipitlaw09_LinkEnds.j0 : Nat → ByteArray → ByteArray → Bool → Bool → Option (Bool)
  | 0, _, _, _, _ => none
  | k + 1, x0, x1, x5, x32 => if x32 = true then (some x5) else ((link_Label.f x0).bind fun bt203 => (if bt203.2 > 0 then (if 0 ≤ bt203.2 then (if bt203.2 ≤ (x0.size : Int) then (if (x0.extract 0 (bt203.2 : Int).toNat).size + x1.size ≤ 9223372036854775807 then ((link_Label.f ((x0.extract 0 (bt203.2 : Int).toNat) ++ x1)).bind fun bt205 => (if 0 ≤ (wrap64 (bt203.2 - 1)) then (if (wrap64 (bt203.2 - 1)) ≤ (x0.size : Int) then ((link_Label.f (x0.extract 0 ((wrap64 (bt203.2 - 1)) : Int).toNat)).bind fun bt207 => (if bt203.1.toList = bt205.1.toList then (if bt203.2 = bt205.2 then (if bt207.2 = 0 then (if (bt203.1.size : Int) = (wrap64 (bt203.2 - 2)) then (incipitlaw09_LinkEnds.j1 k x0 x1 x5) else (some false)) else (some false)) else (some false)) else (some false))) else (none)) else (none))) else (none)) else (none)) else (none)) else (incipitlaw09_LinkEnds.j1 k x0 x1 x5)))
def incipitlaw09_LinkEnds.j1 : Nat → ByteArray → ByteArray → Bool → Option (Bool)
  | 0, _, _, _ => none
  | k + 1, x0, x1, x5 => (link_Title.f x0).bind fun bt209 => (if bt209.2 > 0 then (if 0 ≤ bt209.2 then (if bt209.2 ≤ (x0.size : Int) then (if (x0.extract 0 (bt209.2 : Int).toNat).size + x1.size ≤ 9223372036854775807 then ((link_Title.f ((x0.extract 0 (bt209.2 : Int).toNat) ++ x1)).bind fun bt211 => (if 0 ≤ (wrap64 (bt209.2 - 1)) then (if (wrap64 (bt209.2 - 1)) ≤ (x0.size : Int) then ((link_Title.f (x0.extract 0 ((wrap64 (bt209.2 - 1)) : Int).toNat)).bind fun bt213 => (if bt209.1.toList = bt211.1.toList then (if bt209.2 = bt211.2 then (if bt213.2 = 0 then (incipitlaw09_LinkEnds.j2 k x0 x1 x5) else (some false)) else (some false)) else (some false))) else (none)) else (none))) else (none)) else (none)) else (none)) else (incipitlaw09_LinkEnds.j2 k x0 x1 x5))
def incipitlaw09_LinkEnds.j2 : Nat → ByteArray → ByteArray → Bool → Option (Bool)
  | 0, _, _, _ => none
  | k + 1, x0, x1, x5 => (link_Tail.f k x0).bind fun bt215 => (if bt215.2.2 > 0 then (if 0 ≤ bt215.2.2 then (if bt215.2.2 ≤ (x0.size : Int) then (if (x0.extract 0 (bt215.2.2 : Int).toNat).size + x1.size ≤ 9223372036854775807 then ((link_Tail.f k ((x0.extract 0 (bt215.2.2 : Int).toNat) ++ x1)).bind fun bt218 => (if bt215.1.toList = bt218.1.toList then (if bt215.2.1.toList = bt218.2.1.toList then (if bt215.2.2 = bt218.2.2 then (if 0 < (x0.size : Int) then (if (bt x0 0) = 40 then (if 0 ≤ (wrap64 (bt215.2.2 - 1)) then (if (wrap64 (bt215.2.2 - 1)) < (x0.size : Int) then (if (bt x0 (wrap64 (bt215.2.2 - 1))) = 41 then (some x5) else (some false)) else (none)) else (none)) else (some false)) else (none)) else (some false)) else (some false)) else (some false))) else (none)) else (none)) else (none)) else (some x5))
end
def incipitlaw09_LinkEnds.f (k : Nat) (a0 : ByteArray) (a1 : ByteArray) : Option (Bool) := (incipitlaw09_awake.f k).bind fun t202 => (if (a0.size : Int) > 1000 then (incipitlaw09_LinkEnds.j0 k a0 a1 t202 true) else (incipitlaw09_LinkEnds.j0 k a0 a1 t202 (decide ((a1.size : Int) > 500))))
theorem incipitlaw09_LinkEnds.mono_l : ∀ k, (∀ y0 y1 y2 y3, LeO (incipitlaw09_LinkEnds.j0 k y0 y1 y2 y3) (incipitlaw09_LinkEnds.j0 (k + 1) y0 y1 y2 y3)) ∧ (∀ y0 y1 y2, LeO (incipitlaw09_LinkEnds.j1 k y0 y1 y2) (incipitlaw09_LinkEnds.j1 (k + 1) y0 y1 y2)) ∧ (∀ y0 y1 y2, LeO (incipitlaw09_LinkEnds.j2 k y0 y1 y2) (incipitlaw09_LinkEnds.j2 (k + 1) y0 y1 y2))
  | 0 => ⟨fun _ _ _ _ r h => by simp [incipitlaw09_LinkEnds.j0] at h, fun _ _ _ r h => by simp [incipitlaw09_LinkEnds.j1] at h, fun _ _ _ r h => by simp [incipitlaw09_LinkEnds.j2] at h⟩
  | k + 1 => by
    obtain ⟨ih0, ih1, ih2⟩ := incipitlaw09_LinkEnds.mono_l k
    refine ⟨?_, ?_, ?_⟩
    · intro y0 y1 y2 y3
      unfold incipitlaw09_LinkEnds.j0
      repeat' first
      | (with_reducible exact ih0 _ _ _ _)
      | (with_reducible exact ih1 _ _ _)
      | (with_reducible exact ih2 _ _ _)
      | (with_reducible exact incipitlaw09_awake.mono _)
      | (with_reducible exact link_Tail.mono _ _)
      | (with_reducible exact LeO.refl _)
      | (with_reducible exact LeO.none _)
      | (with_reducible refine LeO.ite ?_ ?_)
      | (with_reducible refine LeO.bind ?_ (fun _ => ?_))
      | exact ih0 _ _ _ _
      | exact ih1 _ _ _
      | exact ih2 _ _ _
      | exact incipitlaw09_awake.mono _
      | exact link_Tail.mono _ _
      | exact LeO.none _
      | refine LeO.ite ?_ ?_
      | refine LeO.bind ?_ (fun _ => ?_)
    · intro y0 y1 y2
      unfold incipitlaw09_LinkEnds.j1
      repeat' first
      | (with_reducible exact ih0 _ _ _ _)
      | (with_reducible exact ih1 _ _ _)
      | (with_reducible exact ih2 _ _ _)
      | (with_reducible exact incipitlaw09_awake.mono _)
      | (with_reducible exact link_Tail.mono _ _)
      | (with_reducible exact LeO.refl _)
      | (with_reducible exact LeO.none _)
      | (with_reducible refine LeO.ite ?_ ?_)
      | (with_reducible refine LeO.bind ?_ (fun _ => ?_))
      | exact ih0 _ _ _ _
      | exact ih1 _ _ _
      | exact ih2 _ _ _
      | exact incipitlaw09_awake.mono _
      | exact link_Tail.mono _ _
      | exact LeO.none _
      | refine LeO.ite ?_ ?_
      | refine LeO.bind ?_ (fun _ => ?_)
    · intro y0 y1 y2
      unfold incipitlaw09_LinkEnds.j2
      repeat' first
      | (with_reducible exact ih0 _ _ _ _)
      | (with_reducible exact ih1 _ _ _)
      | (with_reducible exact ih2 _ _ _)
      | (with_reducible exact incipitlaw09_awake.mono _)
      | (with_reducible exact link_Tail.mono _ _)
      | (with_reducible exact LeO.refl _)
      | (with_reducible exact LeO.none _)
      | (with_reducible refine LeO.ite ?_ ?_)
      | (with_reducible refine LeO.bind ?_ (fun _ => ?_))
      | exact ih0 _ _ _ _
      | exact ih1 _ _ _
      | exact ih2 _ _ _
      | exact incipitlaw09_awake.mono _
      | exact link_Tail.mono _ _
      | exact LeO.none _
      | refine LeO.ite ?_ ?_
      | refine LeO.bind ?_ (fun _ => ?_)
theorem incipitlaw09_LinkEnds.mono : ∀ a0 a1 k, LeO (incipitlaw09_LinkEnds.f k a0 a1) (incipitlaw09_LinkEnds.f (k + 1) a0 a1) := by
  intro a0 a1 k
  obtain ⟨ih0, ih1, ih2⟩ := incipitlaw09_LinkEnds.mono_l k
  unfold incipitlaw09_LinkEnds.f
  repeat' first
      | (with_reducible exact ih0 _ _ _ _)
      | (with_reducible exact ih1 _ _ _)
      | (with_reducible exact ih2 _ _ _)
      | (with_reducible exact incipitlaw09_awake.mono _)
      | (with_reducible exact link_Tail.mono _ _)
      | (with_reducible exact LeO.refl _)
      | (with_reducible exact LeO.none _)
      | (with_reducible refine LeO.ite ?_ ?_)
      | (with_reducible refine LeO.bind ?_ (fun _ => ?_))
      | exact ih0 _ _ _ _
      | exact ih1 _ _ _
      | exact ih2 _ _ _
      | exact incipitlaw09_awake.mono _
      | exact link_Tail.mono _ _
      | exact LeO.none _
      | refine LeO.ite ?_ ?_
      | refine LeO.bind ?_ (fun _ => ?_)
set_option maxHeartbeats 8000000 in
set_option maxRecDepth 100000 in
theorem incipitlaw09_LinkEnds.calls (k : Nat) (a0 : ByteArray) (a1 : ByteArray) (r : Bool) (w : World) (hLd : Laid w) (h : incipitlaw09_LinkEnds.f k a0 a1 = some r) :
    Calls Tryz.prog 4 #[.string a0, .string a1] w fun e w' => e = .returned (.bool r) ∧ Below w.heap.size w w' := by
  have HB := Aside0.mk (Below.refl w.heap.size w)
  have H : ((incipitlaw09_awake.f k).bind fun t202 => (if (a0.size : Int) > 1000 then (incipitlaw09_LinkEnds.j0 k a0 a1 t202 true) else (incipitlaw09_LinkEnds.j0 k a0 a1 t202 (decide ((a1.size : Int) > 500))))) = some r := h
  clear h
  replace H := Option.bind_eq_some_iff.mp H
  obtain ⟨t202, A30, H⟩ := H
  replace H : (if (a0.size : Int) > 1000 then (incipitlaw09_LinkEnds.j0 k a0 a1 t202 true) else (incipitlaw09_LinkEnds.j0 k a0 a1 t202 (decide ((a1.size : Int) > 500)))) = some r := H
  have A3 := Aside0.mk A30
  clear A30
  have HC4 := Aside0.mk H
  clear H
  go_enter Tryz.func4, Tryz.ntmps4
  go_upto_region 2 with (first | ((with_reducible refine gate_callee (f := 9) rfl ?_); refine goesL_ (some 24) rfl rfl Tryz.func9 (by kernel_rfl) rfl #[] rfl (by (try simp only [List.map_toArray, List.map_cons, List.map_nil]); first | done | rfl | (simp only [List.length_drop, List.length_take]; rfl)) ?_; (with_reducible refine (incipitlaw09_awake.calls k  t202 _ ?side1 A3.out).mono ?_); (case side1 => exact Laid.go hLd (by repeat (first | (with_reducible first | exact HB.out | apply below_alloc | apply pw_below_drewN | apply below_drew1) | exact HB.out))); rintro e w5 ⟨rfl, hb⟩; refine ⟨_, rfl, ?_⟩; have n0_ := Aside0.mk (below_step (by repeat (first | (with_reducible first | exact HB.out | apply below_alloc | apply pw_below_drewN | apply below_drew1) | exact HB.out)) hb); clear HB; have HB := n0_; clear n0_; (try clear hb); (try clear hb2); (try clear hk); (try clear hi)))
  (try simp only [Act.put, List.setIfInBounds_toArray, List.set_cons_zero, List.set_cons_succ])
  go_cut [32] (fun v32 wc => ∃ (kq : Nat) (x32_3 : Bool), v32 = .bool x32_3 ∧ Aside0 (incipitlaw09_LinkEnds.j0 kq a0 a1 t202 x32_3 = some r) ∧ Aside0 (kq ≤ k) ∧ Aside0 (Below w.heap.size w wc))
  case first =>
    have H := HC4.out
    clear HC4
    by_cases c6 : (a0.size : Int) > 1000
    · rw [if_pos c6] at H
      have c6b0 : decide (1000 < (a0.size : Int)) = true := decide_eq_true c6
      have c6b1 : decide (1000 < a0.size) = true := decide_eq_true (by omega)
      clear c6
      (first | rw [c6b0] | (simp only [i64_w, i32_w]; rw [c6b0]) | skip)
      have H' := Aside0.mk H
      clear H
      go_wp2
      go_meet
      case rel => exact ⟨_, (true), (by first | rfl | (simp; done) | (simp [*]; done)), H', ⟨by first | omega | exact Nat.le_refl _⟩, ⟨by repeat (first | (with_reducible first | exact HB.out | apply below_alloc | apply pw_below_drewN | apply below_drew1) | exact HB.out)⟩⟩
    · rw [if_neg c6] at H
      have c6b0 : decide (1000 < (a0.size : Int)) = false := decide_eq_false c6
      have c6b1 : decide (1000 < a0.size) = false := decide_eq_false (by omega)
      clear c6
      (first | rw [c6b0] | (simp only [i64_w, i32_w]; rw [c6b0]) | skip)
      have H' := Aside0.mk H
      clear H
      go_wp2
      go_meet
      case rel => exact ⟨_, (decide ((a1.size : Int) > 500)), (by first | rfl | (simp; done) | (simp [*]; done)), H', ⟨by first | omega | exact Nat.le_refl _⟩, ⟨by repeat (first | (with_reducible first | exact HB.out | apply below_alloc | apply pw_below_drewN | apply below_drew1) | exact HB.out)⟩⟩
  case rest =>
    clear HC4
    try clear p2
    try clear c4
    try clear c6
    try clear c6b0
    try clear c6b1
    obtain ⟨kq, x32_3, rfl, HA, HJ3, HB⟩ := hcut
    cases kq with
    | zero => exact absurd HA.out (by simp [incipitlaw09_LinkEnds.j0])
    | succ kj3 =>
      have H := HA.out
      clear HA
      simp only [incipitlaw09_LinkEnds.j0] at H
      by_cases c7 : x32_3 = true
      · subst c7
        have H1 : (some t202) = some r := by rw [if_pos rfl] at H; exact H
        clear H
        have H := H1
        clear H1
        obtain rfl := Option.some.inj H
        go_wp2
        go_ret
        exact ⟨by first | rfl | (refine retEq ?_; first | exact szw c61b7 (by decide) (by decide) | exact szw c40b7 (by decide) (by decide) | exact szw c14b7 (by decide) (by decide)) | (simp [errW_none, errW_some] <;> rfl) | (simp [*, errW_none, errW_some] <;> rfl), by repeat (first | (with_reducible first | exact HB.out | apply below_alloc | apply pw_below_drewN | apply below_drew1) | exact HB.out)⟩
      · replace c7 := Bool.eq_false_iff.mpr c7
        subst c7
        have H1 : ((link_Label.f a0).bind fun bt203 => (if bt203.2 > 0 then (if 0 ≤ bt203.2 then (if bt203.2 ≤ (a0.size : Int) then (if (a0.extract 0 (bt203.2 : Int).toNat).size + a1.size ≤ 9223372036854775807 then ((link_Label.f ((a0.extract 0 (bt203.2 : Int).toNat) ++ a1)).bind fun bt205 => (if 0 ≤ (wrap64 (bt203.2 - 1)) then (if (wrap64 (bt203.2 - 1)) ≤ (a0.size : Int) then ((link_Label.f (a0.extract 0 ((wrap64 (bt203.2 - 1)) : Int).toNat)).bind fun bt207 => (if bt203.1.toList = bt205.1.toList then (if bt203.2 = bt205.2 then (if bt207.2 = 0 then (if (bt203.1.size : Int) = (wrap64 (bt203.2 - 2)) then (incipitlaw09_LinkEnds.j1 kj3 a0 a1 t202) else (some false)) else (some false)) else (some false)) else (some false))) else (none)) else (none))) else (none)) else (none)) else (none)) else (incipitlaw09_LinkEnds.j1 kj3 a0 a1 t202))) = some r := by rw [if_neg (show ¬ (false = true) by decide)] at H; exact H
        clear H
        have H := H1
        clear H1
        replace H := Option.bind_eq_some_iff.mp H
        obtain ⟨⟨t203, t204⟩, A80, H⟩ := H
        replace H : (if t204 > 0 then (if 0 ≤ t204 then (if t204 ≤ (a0.size : Int) then (if (a0.extract 0 (t204 : Int).toNat).size + a1.size ≤ 9223372036854775807 then ((link_Label.f ((a0.extract 0 (t204 : Int).toNat) ++ a1)).bind fun bt205 => (if 0 ≤ (wrap64 (t204 - 1)) then (if (wrap64 (t204 - 1)) ≤ (a0.size : Int) then ((link_Label.f (a0.extract 0 ((wrap64 (t204 - 1)) : Int).toNat)).bind fun bt207 => (if t203.toList = bt205.1.toList then (if t204 = bt205.2 then (if bt207.2 = 0 then (if (t203.size : Int) = (wrap64 (t204 - 2)) then (incipitlaw09_LinkEnds.j1 kj3 a0 a1 t202) else (some false)) else (some false)) else (some false)) else (some false))) else (none)) else (none))) else (none)) else (none)) else (none)) else (incipitlaw09_LinkEnds.j1 kj3 a0 a1 t202)) = some r := H
        have A8 := Aside0.mk A80
        clear A80
        have HC9 := Aside0.mk H
        clear H
        go_upto_if 40 with (first | ((with_reducible refine gate_callee (f := 10) rfl ?_); refine goesL_ (some 36) rfl rfl Tryz.func10 (by kernel_rfl) rfl #[.string a0] rfl (by (try simp only [List.map_toArray, List.map_cons, List.map_nil]); first | done | rfl | (simp only [List.length_drop, List.length_take]; rfl)) ?_; (with_reducible refine (link_Label.calls a0 t203 t204 _ A8.out).mono ?_); rintro e w10 ⟨rfl, hb⟩; refine ⟨_, rfl, ?_⟩; have n0_ := Aside0.mk (below_step (by repeat (first | (with_reducible first | exact HB.out | apply below_alloc | apply pw_below_drewN | apply below_drew1) | exact HB.out)) hb); clear HB; have HB := n0_; clear n0_; (try clear hb); (try clear hb2); (try clear hk); (try clear hi)))
        (try simp only [Act.put, List.setIfInBounds_toArray, List.set_cons_zero, List.set_cons_succ])
        go_cut [] (fun wc => ∃ (kq : Nat), Aside0 (incipitlaw09_LinkEnds.j1 kq a0 a1 t202 = some r) ∧ Aside0 (kq ≤ kj3) ∧ Aside0 (Below w.heap.size w wc))
        case first =>
          have H := HC9.out
          clear HC9
          by_cases c11 : t204 > 0
          · rw [if_pos c11] at H
            have c11b0 : decide (0 < t204) = true := decide_eq_true c11
            clear c11
            (first | rw [c11b0] | (simp only [i64_w, i32_w]; rw [c11b0]) | skip)
            by_cases c12 : 0 ≤ t204
            · rw [if_pos c12] at H
              have c12b0 := eq_true c12
              have c12b1 : decide (0 ≤ t204) = true := decide_eq_true c12
              clear c12
              by_cases c13 : t204 ≤ (a0.size : Int)
              · rw [if_pos c13] at H
                have c13b0 := eq_true c13
                have c13b1 : decide (t204 ≤ (a0.size : Int)) = true := decide_eq_true c13
                clear c13
                by_cases c14 : (a0.extract 0 (t204 : Int).toNat).size + a1.size ≤ 9223372036854775807
                · rw [if_pos c14] at H
                  have c14b0 := eq_true c14
                  have c14b1 : decide ((a0.extract 0 (t204 : Int).toNat).size + a1.size ≤ 9223372036854775807) = true := decide_eq_true c14
                  have c14b4 := c14
                  (try simp only [ByteArray.size_append, ByteArray.size_extract, Nat.min_self] at c14b4)
                  (try have c14b5 := Nat.not_lt.2 c14b4)
                  (try have c14b7 : ¬ 9223372036854775807 < (a0.extract 0 (t204 : Int).toNat).size + a1.size := by have hh := c14; simp only [ByteArray.size_append] at hh; exact Nat.not_lt.2 hh)
                  (try have c14b9 : ¬ 9223372036854775807 < min (t204 : Int).toNat a0.size + a1.size := by have hh := c14; simp only [ByteArray.size_append, ByteArray.size_extract, Nat.min_self] at hh; first | exact Nat.not_lt.2 hh | (have hh2 := hh; simp only [ByteArray.size] at hh2 ⊢; omega))
                  (try have c14b6 : ¬ 9223372036854775807 < (t204 : Int).toNat + a1.size := by have hh := c14; (try simp only [decide_eq_true_eq] at *); simp only [ByteArray.size_extract] at hh; omega)
                  try have c14b2 : (9223372036854775807 < (a0.extract 0 (t204 : Int).toNat).size + a1.size) = False := eq_false (Nat.not_lt.2 c14)
                  replace H := Option.bind_eq_some_iff.mp H
                  obtain ⟨⟨t205, t206⟩, A150, H⟩ := H
                  replace H : (if 0 ≤ (wrap64 (t204 - 1)) then (if (wrap64 (t204 - 1)) ≤ (a0.size : Int) then ((link_Label.f (a0.extract 0 ((wrap64 (t204 - 1)) : Int).toNat)).bind fun bt207 => (if t203.toList = t205.toList then (if t204 = t206 then (if bt207.2 = 0 then (if (t203.size : Int) = (wrap64 (t204 - 2)) then (incipitlaw09_LinkEnds.j1 kj3 a0 a1 t202) else (some false)) else (some false)) else (some false)) else (some false))) else (none)) else (none)) = some r := H
                  have A15 := Aside0.mk A150
                  clear A150
                  obtain ⟨ji16, hji16⟩ : ∃ j_ : Int, (wrap64 (t204 - 1)) = j_ := ⟨_, rfl⟩
                  replace H : (if 0 ≤ (ji16) then (if (ji16) ≤ (a0.size : Int) then ((link_Label.f (a0.extract 0 ((ji16) : Int).toNat)).bind fun bt207 => (if t203.toList = t205.toList then (if t204 = t206 then (if bt207.2 = 0 then (if (t203.size : Int) = (wrap64 (t204 - 2)) then (incipitlaw09_LinkEnds.j1 kj3 a0 a1 t202) else (some false)) else (some false)) else (some false)) else (some false))) else (none)) else (none)) = some r := by first | (rw [hji16] at H; exact H) | (simp only [hji16] at H ⊢; exact H)
                  (try rw [hji16] at A15)
                  have hji16w : (IntKind.i64.wrap (t204 - 1)) = ji16 := (i64_w _).trans hji16
                  by_cases c17 : 0 ≤ (ji16)
                  · rw [if_pos c17] at H
                    have c17b0 := eq_true c17
                    have c17b1 : decide (0 ≤ (ji16)) = true := decide_eq_true c17
                    clear c17
                    by_cases c18 : (ji16) ≤ (a0.size : Int)
                    · rw [if_pos c18] at H
                      have c18b0 := eq_true c18
                      have c18b1 : decide ((ji16) ≤ (a0.size : Int)) = true := decide_eq_true c18
                      clear c18
                      replace H := Option.bind_eq_some_iff.mp H
                      obtain ⟨⟨t207, t208⟩, A190, H⟩ := H
                      replace H : (if t203.toList = t205.toList then (if t204 = t206 then (if t208 = 0 then (if (t203.size : Int) = (wrap64 (t204 - 2)) then (incipitlaw09_LinkEnds.j1 kj3 a0 a1 t202) else (some false)) else (some false)) else (some false)) else (some false)) = some r := H
                      have A19 := Aside0.mk A190
                      clear A190
                      by_cases c20 : t203.toList = t205.toList
                      · rw [if_pos c20] at H
                        have c20b0 : (t203.toList == t205.toList) = true := beq_iff_eq.mpr c20
                        have c20b1 : (t203.toList != t205.toList) = false := bne_eq_false_iff_eq.mpr c20
                        clear c20
                        by_cases c21 : t204 = t206
                        · rw [if_pos c21] at H
                          have c21b0 : (t204 == t206) = true := beq_iff_eq.mpr c21
                          have c21b1 : (t204 != t206) = false := bne_eq_false_iff_eq.mpr c21
                          clear c21
                          by_cases c22 : t208 = 0
                          · rw [if_pos c22] at H
                            have c22b0 : (t208 == 0) = true := beq_iff_eq.mpr c22
                            have c22b1 : (t208 != 0) = false := bne_eq_false_iff_eq.mpr c22
                            clear c22
                            by_cases c23 : (t203.size : Int) = (wrap64 (t204 - 2))
                            · rw [if_pos c23] at H
                              have c23b0 : ((t203.size : Int) == (wrap64 (t204 - 2))) = true := beq_iff_eq.mpr c23
                              have c23b1 : ((t203.size : Int) != (wrap64 (t204 - 2))) = false := bne_eq_false_iff_eq.mpr c23
                              clear c23
                              have H' := Aside0.mk H
                              clear H
                              go_wp2_with (first | ((with_reducible refine gate_callee (f := 10) rfl ?_); refine goesL_ (some 47) rfl rfl Tryz.func10 (by kernel_rfl) rfl #[.string ((a0.extract 0 (t204 : Int).toNat) ++ a1)] rfl (by (try simp only [List.map_toArray, List.map_cons, List.map_nil]); first | done | rfl | (simp only [List.length_drop, List.length_take]; rfl)) ?_; (with_reducible refine (link_Label.calls ((a0.extract 0 (t204 : Int).toNat) ++ a1) t205 t206 _ A15.out).mono ?_); rintro e w24 ⟨rfl, hb⟩; refine ⟨_, rfl, ?_⟩; have n0_ := Aside0.mk (below_step (by repeat (first | (with_reducible first | exact HB.out | apply below_alloc | apply pw_below_drewN | apply below_drew1) | exact HB.out)) hb); clear HB; have HB := n0_; clear n0_; (try clear hb); (try clear hb2); (try clear hk); (try clear hi)) | ((with_reducible refine gate_callee (f := 10) rfl ?_); refine goesL_ (some 55) rfl rfl Tryz.func10 (by kernel_rfl) rfl #[.string (a0.extract 0 ((ji16) : Int).toNat)] rfl (by (try simp only [List.map_toArray, List.map_cons, List.map_nil]); first | done | (simp only [hji16]; rfl) | rfl | (simp only [List.length_drop, List.length_take]; rfl)) ?_; (with_reducible refine (link_Label.calls (a0.extract 0 ((ji16) : Int).toNat) t207 t208 _ A19.out).mono ?_); rintro e w25 ⟨rfl, hb⟩; refine ⟨_, rfl, ?_⟩; have n0_ := Aside0.mk (below_step (by repeat (first | (with_reducible first | exact HB.out | apply below_alloc | apply pw_below_drewN | apply below_drew1) | exact HB.out)) hb); clear HB; have HB := n0_; clear n0_; (try clear hb); (try clear hb2); (try clear hk); (try clear hi)))
                              go_meet
                              case rel => exact ⟨_, H', ⟨by have := HJ3.out; first | omega | exact Nat.le_refl _⟩, ⟨by repeat (first | (with_reducible first | exact HB.out | apply below_alloc | apply pw_below_drewN | apply below_drew1) | exact HB.out)⟩⟩
                            · rw [if_neg c23] at H
                              have c23b0 : ((t203.size : Int) == (wrap64 (t204 - 2))) = false := beq_eq_false_iff_ne.mpr c23
                              have c23b1 : ((t203.size : Int) != (wrap64 (t204 - 2))) = true := bne_iff_ne.mpr c23
                              obtain rfl := Option.some.inj H
                              go_wp2_with (first | ((with_reducible refine gate_callee (f := 10) rfl ?_); refine goesL_ (some 47) rfl rfl Tryz.func10 (by kernel_rfl) rfl #[.string ((a0.extract 0 (t204 : Int).toNat) ++ a1)] rfl (by (try simp only [List.map_toArray, List.map_cons, List.map_nil]); first | done | rfl | (simp only [List.length_drop, List.length_take]; rfl)) ?_; (with_reducible refine (link_Label.calls ((a0.extract 0 (t204 : Int).toNat) ++ a1) t205 t206 _ A15.out).mono ?_); rintro e w26 ⟨rfl, hb⟩; refine ⟨_, rfl, ?_⟩; have n0_ := Aside0.mk (below_step (by repeat (first | (with_reducible first | exact HB.out | apply below_alloc | apply pw_below_drewN | apply below_drew1) | exact HB.out)) hb); clear HB; have HB := n0_; clear n0_; (try clear hb); (try clear hb2); (try clear hk); (try clear hi)) | ((with_reducible refine gate_callee (f := 10) rfl ?_); refine goesL_ (some 55) rfl rfl Tryz.func10 (by kernel_rfl) rfl #[.string (a0.extract 0 ((ji16) : Int).toNat)] rfl (by (try simp only [List.map_toArray, List.map_cons, List.map_nil]); first | done | (simp only [hji16]; rfl) | rfl | (simp only [List.length_drop, List.length_take]; rfl)) ?_; (with_reducible refine (link_Label.calls (a0.extract 0 ((ji16) : Int).toNat) t207 t208 _ A19.out).mono ?_); rintro e w27 ⟨rfl, hb⟩; refine ⟨_, rfl, ?_⟩; have n0_ := Aside0.mk (below_step (by repeat (first | (with_reducible first | exact HB.out | apply below_alloc | apply pw_below_drewN | apply below_drew1) | exact HB.out)) hb); clear HB; have HB := n0_; clear n0_; (try clear hb); (try clear hb2); (try clear hk); (try clear hi)))
                              go_ret
                              exact ⟨by first | rfl | (refine retEq ?_; first | exact szw c61b7 (by decide) (by decide) | exact szw c40b7 (by decide) (by decide) | exact szw c14b7 (by decide) (by decide)) | (simp [errW_none, errW_some] <;> rfl) | (simp only [← hji16]; first | rfl | (simp [errW_none, errW_some] <;> rfl)) | (simp [*, errW_none, errW_some] <;> rfl), by repeat (first | (with_reducible first | exact HB.out | apply below_alloc | apply pw_below_drewN | apply below_drew1) | exact HB.out)⟩
                          · rw [if_neg c22] at H
                            have c22b0 : (t208 == 0) = false := beq_eq_false_iff_ne.mpr c22
                            have c22b1 : (t208 != 0) = true := bne_iff_ne.mpr c22
                            obtain rfl := Option.some.inj H
                            go_wp2_with (first | ((with_reducible refine gate_callee (f := 10) rfl ?_); refine goesL_ (some 47) rfl rfl Tryz.func10 (by kernel_rfl) rfl #[.string ((a0.extract 0 (t204 : Int).toNat) ++ a1)] rfl (by (try simp only [List.map_toArray, List.map_cons, List.map_nil]); first | done | rfl | (simp only [List.length_drop, List.length_take]; rfl)) ?_; (with_reducible refine (link_Label.calls ((a0.extract 0 (t204 : Int).toNat) ++ a1) t205 t206 _ A15.out).mono ?_); rintro e w28 ⟨rfl, hb⟩; refine ⟨_, rfl, ?_⟩; have n0_ := Aside0.mk (below_step (by repeat (first | (with_reducible first | exact HB.out | apply below_alloc | apply pw_below_drewN | apply below_drew1) | exact HB.out)) hb); clear HB; have HB := n0_; clear n0_; (try clear hb); (try clear hb2); (try clear hk); (try clear hi)) | ((with_reducible refine gate_callee (f := 10) rfl ?_); refine goesL_ (some 55) rfl rfl Tryz.func10 (by kernel_rfl) rfl #[.string (a0.extract 0 ((ji16) : Int).toNat)] rfl (by (try simp only [List.map_toArray, List.map_cons, List.map_nil]); first | done | (simp only [hji16]; rfl) | rfl | (simp only [List.length_drop, List.length_take]; rfl)) ?_; (with_reducible refine (link_Label.calls (a0.extract 0 ((ji16) : Int).toNat) t207 t208 _ A19.out).mono ?_); rintro e w29 ⟨rfl, hb⟩; refine ⟨_, rfl, ?_⟩; have n0_ := Aside0.mk (below_step (by repeat (first | (with_reducible first | exact HB.out | apply below_alloc | apply pw_below_drewN | apply below_drew1) | exact HB.out)) hb); clear HB; have HB := n0_; clear n0_; (try clear hb); (try clear hb2); (try clear hk); (try clear hi)))
                            go_ret
                            exact ⟨by first | rfl | (refine retEq ?_; first | exact szw c61b7 (by decide) (by decide) | exact szw c40b7 (by decide) (by decide) | exact szw c14b7 (by decide) (by decide)) | (simp [errW_none, errW_some] <;> rfl) | (simp only [← hji16]; first | rfl | (simp [errW_none, errW_some] <;> rfl)) | (simp [*, errW_none, errW_some] <;> rfl), by repeat (first | (with_reducible first | exact HB.out | apply below_alloc | apply pw_below_drewN | apply below_drew1) | exact HB.out)⟩
                        · rw [if_neg c21] at H
                          have c21b0 : (t204 == t206) = false := beq_eq_false_iff_ne.mpr c21
                          have c21b1 : (t204 != t206) = true := bne_iff_ne.mpr c21
                          obtain rfl := Option.some.inj H
                          go_wp2_with (first | ((with_reducible refine gate_callee (f := 10) rfl ?_); refine goesL_ (some 47) rfl rfl Tryz.func10 (by kernel_rfl) rfl #[.string ((a0.extract 0 (t204 : Int).toNat) ++ a1)] rfl (by (try simp only [List.map_toArray, List.map_cons, List.map_nil]); first | done | rfl | (simp only [List.length_drop, List.length_take]; rfl)) ?_; (with_reducible refine (link_Label.calls ((a0.extract 0 (t204 : Int).toNat) ++ a1) t205 t206 _ A15.out).mono ?_); rintro e w30 ⟨rfl, hb⟩; refine ⟨_, rfl, ?_⟩; have n0_ := Aside0.mk (below_step (by repeat (first | (with_reducible first | exact HB.out | apply below_alloc | apply pw_below_drewN | apply below_drew1) | exact HB.out)) hb); clear HB; have HB := n0_; clear n0_; (try clear hb); (try clear hb2); (try clear hk); (try clear hi)) | ((with_reducible refine gate_callee (f := 10) rfl ?_); refine goesL_ (some 55) rfl rfl Tryz.func10 (by kernel_rfl) rfl #[.string (a0.extract 0 ((ji16) : Int).toNat)] rfl (by (try simp only [List.map_toArray, List.map_cons, List.map_nil]); first | done | (simp only [hji16]; rfl) | rfl | (simp only [List.length_drop, List.length_take]; rfl)) ?_; (with_reducible refine (link_Label.calls (a0.extract 0 ((ji16) : Int).toNat) t207 t208 _ A19.out).mono ?_); rintro e w31 ⟨rfl, hb⟩; refine ⟨_, rfl, ?_⟩; have n0_ := Aside0.mk (below_step (by repeat (first | (with_reducible first | exact HB.out | apply below_alloc | apply pw_below_drewN | apply below_drew1) | exact HB.out)) hb); clear HB; have HB := n0_; clear n0_; (try clear hb); (try clear hb2); (try clear hk); (try clear hi)))
                          go_ret
                          exact ⟨by first | rfl | (refine retEq ?_; first | exact szw c61b7 (by decide) (by decide) | exact szw c40b7 (by decide) (by decide) | exact szw c14b7 (by decide) (by decide)) | (simp [errW_none, errW_some] <;> rfl) | (simp only [← hji16]; first | rfl | (simp [errW_none, errW_some] <;> rfl)) | (simp [*, errW_none, errW_some] <;> rfl), by repeat (first | (with_reducible first | exact HB.out | apply below_alloc | apply pw_below_drewN | apply below_drew1) | exact HB.out)⟩
                      · rw [if_neg c20] at H
                        have c20b0 : (t203.toList == t205.toList) = false := beq_eq_false_iff_ne.mpr c20
                        have c20b1 : (t203.toList != t205.toList) = true := bne_iff_ne.mpr c20
                        obtain rfl := Option.some.inj H
                        go_wp2_with (first | ((with_reducible refine gate_callee (f := 10) rfl ?_); refine goesL_ (some 47) rfl rfl Tryz.func10 (by kernel_rfl) rfl #[.string ((a0.extract 0 (t204 : Int).toNat) ++ a1)] rfl (by (try simp only [List.map_toArray, List.map_cons, List.map_nil]); first | done | rfl | (simp only [List.length_drop, List.length_take]; rfl)) ?_; (with_reducible refine (link_Label.calls ((a0.extract 0 (t204 : Int).toNat) ++ a1) t205 t206 _ A15.out).mono ?_); rintro e w32 ⟨rfl, hb⟩; refine ⟨_, rfl, ?_⟩; have n0_ := Aside0.mk (below_step (by repeat (first | (with_reducible first | exact HB.out | apply below_alloc | apply pw_below_drewN | apply below_drew1) | exact HB.out)) hb); clear HB; have HB := n0_; clear n0_; (try clear hb); (try clear hb2); (try clear hk); (try clear hi)) | ((with_reducible refine gate_callee (f := 10) rfl ?_); refine goesL_ (some 55) rfl rfl Tryz.func10 (by kernel_rfl) rfl #[.string (a0.extract 0 ((ji16) : Int).toNat)] rfl (by (try simp only [List.map_toArray, List.map_cons, List.map_nil]); first | done | (simp only [hji16]; rfl) | rfl | (simp only [List.length_drop, List.length_take]; rfl)) ?_; (with_reducible refine (link_Label.calls (a0.extract 0 ((ji16) : Int).toNat) t207 t208 _ A19.out).mono ?_); rintro e w33 ⟨rfl, hb⟩; refine ⟨_, rfl, ?_⟩; have n0_ := Aside0.mk (below_step (by repeat (first | (with_reducible first | exact HB.out | apply below_alloc | apply pw_below_drewN | apply below_drew1) | exact HB.out)) hb); clear HB; have HB := n0_; clear n0_; (try clear hb); (try clear hb2); (try clear hk); (try clear hi)))
                        go_ret
                        exact ⟨by first | rfl | (refine retEq ?_; first | exact szw c61b7 (by decide) (by decide) | exact szw c40b7 (by decide) (by decide) | exact szw c14b7 (by decide) (by decide)) | (simp [errW_none, errW_some] <;> rfl) | (simp only [← hji16]; first | rfl | (simp [errW_none, errW_some] <;> rfl)) | (simp [*, errW_none, errW_some] <;> rfl), by repeat (first | (with_reducible first | exact HB.out | apply below_alloc | apply pw_below_drewN | apply below_drew1) | exact HB.out)⟩
                    · rw [if_neg c18] at H
                      exact absurd H (by simp)
                  · rw [if_neg c17] at H
                    exact absurd H (by simp)
                · rw [if_neg c14] at H
                  exact absurd H (by simp)
              · rw [if_neg c13] at H
                exact absurd H (by simp)
            · rw [if_neg c12] at H
              exact absurd H (by simp)
          · rw [if_neg c11] at H
            have c11b0 : decide (0 < t204) = false := decide_eq_false c11
            clear c11
            (first | rw [c11b0] | (simp only [i64_w, i32_w]; rw [c11b0]) | skip)
            have H' := Aside0.mk H
            clear H
            go_wp2
            go_meet
            case rel => exact ⟨_, H', ⟨by have := HJ3.out; first | omega | exact Nat.le_refl _⟩, ⟨by repeat (first | (with_reducible first | exact HB.out | apply below_alloc | apply pw_below_drewN | apply below_drew1) | exact HB.out)⟩⟩
        case rest =>
          clear HC9
          try clear c1
          try clear c2
          try clear p2
          try clear c4
          try clear c6
          try clear c6b0
          try clear c6b1
          try clear p6
          try clear c7
          try clear c9
          try clear c10
          try clear c11
          try clear c11b0
          try clear c12
          try clear c12b0
          try clear c12b1
          try clear c13
          try clear c13b0
          try clear c13b1
          try clear c14
          try clear c14b0
          try clear c14b1
          try clear c14b2
          try clear c17
          try clear c17b0
          try clear c17b1
          try clear c18
          try clear c18b0
          try clear c18b1
          try clear c20
          try clear c20b0
          try clear c20b1
          try clear c21
          try clear c21b0
          try clear c21b1
          try clear c22
          try clear c22b0
          try clear c22b1
          try clear c23
          try clear c23b0
          try clear c23b1
          try clear p2
          obtain ⟨kq, HA, HJ8, HB⟩ := hcut
          cases kq with
          | zero => exact absurd HA.out (by simp [incipitlaw09_LinkEnds.j1])
          | succ kj8 =>
            have H := HA.out
            clear HA
            simp only [incipitlaw09_LinkEnds.j1] at H
            replace H := Option.bind_eq_some_iff.mp H
            obtain ⟨⟨t209, t210⟩, A340, H⟩ := H
            replace H : (if t210 > 0 then (if 0 ≤ t210 then (if t210 ≤ (a0.size : Int) then (if (a0.extract 0 (t210 : Int).toNat).size + a1.size ≤ 9223372036854775807 then ((link_Title.f ((a0.extract 0 (t210 : Int).toNat) ++ a1)).bind fun bt211 => (if 0 ≤ (wrap64 (t210 - 1)) then (if (wrap64 (t210 - 1)) ≤ (a0.size : Int) then ((link_Title.f (a0.extract 0 ((wrap64 (t210 - 1)) : Int).toNat)).bind fun bt213 => (if t209.toList = bt211.1.toList then (if t210 = bt211.2 then (if bt213.2 = 0 then (incipitlaw09_LinkEnds.j2 kj8 a0 a1 t202) else (some false)) else (some false)) else (some false))) else (none)) else (none))) else (none)) else (none)) else (none)) else (incipitlaw09_LinkEnds.j2 kj8 a0 a1 t202)) = some r := H
            have A34 := Aside0.mk A340
            clear A340
            have HC35 := Aside0.mk H
            clear H
            go_upto_if 83 with (first | ((with_reducible refine gate_callee (f := 14) rfl ?_); refine goesL_ (some 79) rfl rfl Tryz.func14 (by kernel_rfl) rfl #[.string a0] rfl (by (try simp only [List.map_toArray, List.map_cons, List.map_nil]); first | done | rfl | (simp only [List.length_drop, List.length_take]; rfl)) ?_; (with_reducible refine (link_Title.calls a0 t209 t210 _ ?side1 A34.out).mono ?_); (case side1 => exact Laid.go hLd (by repeat (first | (with_reducible first | exact HB.out | apply below_alloc | apply pw_below_drewN | apply below_drew1) | exact HB.out))); rintro e w36 ⟨rfl, hb⟩; refine ⟨_, rfl, ?_⟩; have n0_ := Aside0.mk (below_step (by repeat (first | (with_reducible first | exact HB.out | apply below_alloc | apply pw_below_drewN | apply below_drew1) | exact HB.out)) hb); clear HB; have HB := n0_; clear n0_; (try clear hb); (try clear hb2); (try clear hk); (try clear hi)))
            (try simp only [Act.put, List.setIfInBounds_toArray, List.set_cons_zero, List.set_cons_succ])
            go_cut [] (fun wc => ∃ (kq : Nat), Aside0 (incipitlaw09_LinkEnds.j2 kq a0 a1 t202 = some r) ∧ Aside0 (kq ≤ kj8) ∧ Aside0 (Below w.heap.size w wc))
            case first =>
              have H := HC35.out
              clear HC35
              by_cases c37 : t210 > 0
              · rw [if_pos c37] at H
                have c37b0 : decide (0 < t210) = true := decide_eq_true c37
                clear c37
                (first | rw [c37b0] | (simp only [i64_w, i32_w]; rw [c37b0]) | skip)
                by_cases c38 : 0 ≤ t210
                · rw [if_pos c38] at H
                  have c38b0 := eq_true c38
                  have c38b1 : decide (0 ≤ t210) = true := decide_eq_true c38
                  clear c38
                  by_cases c39 : t210 ≤ (a0.size : Int)
                  · rw [if_pos c39] at H
                    have c39b0 := eq_true c39
                    have c39b1 : decide (t210 ≤ (a0.size : Int)) = true := decide_eq_true c39
                    clear c39
                    by_cases c40 : (a0.extract 0 (t210 : Int).toNat).size + a1.size ≤ 9223372036854775807
                    · rw [if_pos c40] at H
                      have c40b0 := eq_true c40
                      have c40b1 : decide ((a0.extract 0 (t210 : Int).toNat).size + a1.size ≤ 9223372036854775807) = true := decide_eq_true c40
                      have c40b4 := c40
                      (try simp only [ByteArray.size_append, ByteArray.size_extract, Nat.min_self] at c40b4)
                      (try have c40b5 := Nat.not_lt.2 c40b4)
                      (try have c40b7 : ¬ 9223372036854775807 < (a0.extract 0 (t210 : Int).toNat).size + a1.size := by have hh := c40; simp only [ByteArray.size_append] at hh; exact Nat.not_lt.2 hh)
                      (try have c40b9 : ¬ 9223372036854775807 < min (t210 : Int).toNat a0.size + a1.size := by have hh := c40; simp only [ByteArray.size_append, ByteArray.size_extract, Nat.min_self] at hh; first | exact Nat.not_lt.2 hh | (have hh2 := hh; simp only [ByteArray.size] at hh2 ⊢; omega))
                      (try have c40b6 : ¬ 9223372036854775807 < (t210 : Int).toNat + a1.size := by have hh := c40; (try simp only [decide_eq_true_eq] at *); simp only [ByteArray.size_extract] at hh; omega)
                      try have c40b2 : (9223372036854775807 < (a0.extract 0 (t210 : Int).toNat).size + a1.size) = False := eq_false (Nat.not_lt.2 c40)
                      replace H := Option.bind_eq_some_iff.mp H
                      obtain ⟨⟨t211, t212⟩, A410, H⟩ := H
                      replace H : (if 0 ≤ (wrap64 (t210 - 1)) then (if (wrap64 (t210 - 1)) ≤ (a0.size : Int) then ((link_Title.f (a0.extract 0 ((wrap64 (t210 - 1)) : Int).toNat)).bind fun bt213 => (if t209.toList = t211.toList then (if t210 = t212 then (if bt213.2 = 0 then (incipitlaw09_LinkEnds.j2 kj8 a0 a1 t202) else (some false)) else (some false)) else (some false))) else (none)) else (none)) = some r := H
                      have A41 := Aside0.mk A410
                      clear A410
                      obtain ⟨ji42, hji42⟩ : ∃ j_ : Int, (wrap64 (t210 - 1)) = j_ := ⟨_, rfl⟩
                      replace H : (if 0 ≤ (ji42) then (if (ji42) ≤ (a0.size : Int) then ((link_Title.f (a0.extract 0 ((ji42) : Int).toNat)).bind fun bt213 => (if t209.toList = t211.toList then (if t210 = t212 then (if bt213.2 = 0 then (incipitlaw09_LinkEnds.j2 kj8 a0 a1 t202) else (some false)) else (some false)) else (some false))) else (none)) else (none)) = some r := by first | (rw [hji42] at H; exact H) | (simp only [hji42] at H ⊢; exact H)
                      (try rw [hji42] at A41)
                      have hji42w : (IntKind.i64.wrap (t210 - 1)) = ji42 := (i64_w _).trans hji42
                      by_cases c43 : 0 ≤ (ji42)
                      · rw [if_pos c43] at H
                        have c43b0 := eq_true c43
                        have c43b1 : decide (0 ≤ (ji42)) = true := decide_eq_true c43
                        clear c43
                        by_cases c44 : (ji42) ≤ (a0.size : Int)
                        · rw [if_pos c44] at H
                          have c44b0 := eq_true c44
                          have c44b1 : decide ((ji42) ≤ (a0.size : Int)) = true := decide_eq_true c44
                          clear c44
                          replace H := Option.bind_eq_some_iff.mp H
                          obtain ⟨⟨t213, t214⟩, A450, H⟩ := H
                          replace H : (if t209.toList = t211.toList then (if t210 = t212 then (if t214 = 0 then (incipitlaw09_LinkEnds.j2 kj8 a0 a1 t202) else (some false)) else (some false)) else (some false)) = some r := H
                          have A45 := Aside0.mk A450
                          clear A450
                          by_cases c46 : t209.toList = t211.toList
                          · rw [if_pos c46] at H
                            have c46b0 : (t209.toList == t211.toList) = true := beq_iff_eq.mpr c46
                            have c46b1 : (t209.toList != t211.toList) = false := bne_eq_false_iff_eq.mpr c46
                            clear c46
                            by_cases c47 : t210 = t212
                            · rw [if_pos c47] at H
                              have c47b0 : (t210 == t212) = true := beq_iff_eq.mpr c47
                              have c47b1 : (t210 != t212) = false := bne_eq_false_iff_eq.mpr c47
                              clear c47
                              by_cases c48 : t214 = 0
                              · rw [if_pos c48] at H
                                have c48b0 : (t214 == 0) = true := beq_iff_eq.mpr c48
                                have c48b1 : (t214 != 0) = false := bne_eq_false_iff_eq.mpr c48
                                clear c48
                                have H' := Aside0.mk H
                                clear H
                                go_wp2_with (first | ((with_reducible refine gate_callee (f := 14) rfl ?_); refine goesL_ (some 90) rfl rfl Tryz.func14 (by kernel_rfl) rfl #[.string ((a0.extract 0 (t210 : Int).toNat) ++ a1)] rfl (by (try simp only [List.map_toArray, List.map_cons, List.map_nil]); first | done | rfl | (simp only [List.length_drop, List.length_take]; rfl)) ?_; (with_reducible refine (link_Title.calls ((a0.extract 0 (t210 : Int).toNat) ++ a1) t211 t212 _ ?side1 A41.out).mono ?_); (case side1 => exact Laid.go hLd (by repeat (first | (with_reducible first | exact HB.out | apply below_alloc | apply pw_below_drewN | apply below_drew1) | exact HB.out))); rintro e w49 ⟨rfl, hb⟩; refine ⟨_, rfl, ?_⟩; have n0_ := Aside0.mk (below_step (by repeat (first | (with_reducible first | exact HB.out | apply below_alloc | apply pw_below_drewN | apply below_drew1) | exact HB.out)) hb); clear HB; have HB := n0_; clear n0_; (try clear hb); (try clear hb2); (try clear hk); (try clear hi)) | ((with_reducible refine gate_callee (f := 14) rfl ?_); refine goesL_ (some 98) rfl rfl Tryz.func14 (by kernel_rfl) rfl #[.string (a0.extract 0 ((ji42) : Int).toNat)] rfl (by (try simp only [List.map_toArray, List.map_cons, List.map_nil]); first | done | (simp only [hji42]; rfl) | rfl | (simp only [List.length_drop, List.length_take]; rfl)) ?_; (with_reducible refine (link_Title.calls (a0.extract 0 ((ji42) : Int).toNat) t213 t214 _ ?side1 A45.out).mono ?_); (case side1 => exact Laid.go hLd (by repeat (first | (with_reducible first | exact HB.out | apply below_alloc | apply pw_below_drewN | apply below_drew1) | exact HB.out))); rintro e w50 ⟨rfl, hb⟩; refine ⟨_, rfl, ?_⟩; have n0_ := Aside0.mk (below_step (by repeat (first | (with_reducible first | exact HB.out | apply below_alloc | apply pw_below_drewN | apply below_drew1) | exact HB.out)) hb); clear HB; have HB := n0_; clear n0_; (try clear hb); (try clear hb2); (try clear hk); (try clear hi)))
                                go_meet
                                case rel => exact ⟨_, H', ⟨by have := HJ3.out; have := HJ8.out; first | omega | exact Nat.le_refl _⟩, ⟨by repeat (first | (with_reducible first | exact HB.out | apply below_alloc | apply pw_below_drewN | apply below_drew1) | exact HB.out)⟩⟩
                              · rw [if_neg c48] at H
                                have c48b0 : (t214 == 0) = false := beq_eq_false_iff_ne.mpr c48
                                have c48b1 : (t214 != 0) = true := bne_iff_ne.mpr c48
                                obtain rfl := Option.some.inj H
                                go_wp2_with (first | ((with_reducible refine gate_callee (f := 14) rfl ?_); refine goesL_ (some 90) rfl rfl Tryz.func14 (by kernel_rfl) rfl #[.string ((a0.extract 0 (t210 : Int).toNat) ++ a1)] rfl (by (try simp only [List.map_toArray, List.map_cons, List.map_nil]); first | done | rfl | (simp only [List.length_drop, List.length_take]; rfl)) ?_; (with_reducible refine (link_Title.calls ((a0.extract 0 (t210 : Int).toNat) ++ a1) t211 t212 _ ?side1 A41.out).mono ?_); (case side1 => exact Laid.go hLd (by repeat (first | (with_reducible first | exact HB.out | apply below_alloc | apply pw_below_drewN | apply below_drew1) | exact HB.out))); rintro e w51 ⟨rfl, hb⟩; refine ⟨_, rfl, ?_⟩; have n0_ := Aside0.mk (below_step (by repeat (first | (with_reducible first | exact HB.out | apply below_alloc | apply pw_below_drewN | apply below_drew1) | exact HB.out)) hb); clear HB; have HB := n0_; clear n0_; (try clear hb); (try clear hb2); (try clear hk); (try clear hi)) | ((with_reducible refine gate_callee (f := 14) rfl ?_); refine goesL_ (some 98) rfl rfl Tryz.func14 (by kernel_rfl) rfl #[.string (a0.extract 0 ((ji42) : Int).toNat)] rfl (by (try simp only [List.map_toArray, List.map_cons, List.map_nil]); first | done | (simp only [hji42]; rfl) | rfl | (simp only [List.length_drop, List.length_take]; rfl)) ?_; (with_reducible refine (link_Title.calls (a0.extract 0 ((ji42) : Int).toNat) t213 t214 _ ?side1 A45.out).mono ?_); (case side1 => exact Laid.go hLd (by repeat (first | (with_reducible first | exact HB.out | apply below_alloc | apply pw_below_drewN | apply below_drew1) | exact HB.out))); rintro e w52 ⟨rfl, hb⟩; refine ⟨_, rfl, ?_⟩; have n0_ := Aside0.mk (below_step (by repeat (first | (with_reducible first | exact HB.out | apply below_alloc | apply pw_below_drewN | apply below_drew1) | exact HB.out)) hb); clear HB; have HB := n0_; clear n0_; (try clear hb); (try clear hb2); (try clear hk); (try clear hi)))
                                go_ret
                                exact ⟨by first | rfl | (refine retEq ?_; first | exact szw c61b7 (by decide) (by decide) | exact szw c40b7 (by decide) (by decide) | exact szw c14b7 (by decide) (by decide)) | (simp [errW_none, errW_some] <;> rfl) | (simp only [← hji42]; first | rfl | (simp [errW_none, errW_some] <;> rfl)) | (simp [*, errW_none, errW_some] <;> rfl), by repeat (first | (with_reducible first | exact HB.out | apply below_alloc | apply pw_below_drewN | apply below_drew1) | exact HB.out)⟩
                            · rw [if_neg c47] at H
                              have c47b0 : (t210 == t212) = false := beq_eq_false_iff_ne.mpr c47
                              have c47b1 : (t210 != t212) = true := bne_iff_ne.mpr c47
                              obtain rfl := Option.some.inj H
                              go_wp2_with (first | ((with_reducible refine gate_callee (f := 14) rfl ?_); refine goesL_ (some 90) rfl rfl Tryz.func14 (by kernel_rfl) rfl #[.string ((a0.extract 0 (t210 : Int).toNat) ++ a1)] rfl (by (try simp only [List.map_toArray, List.map_cons, List.map_nil]); first | done | rfl | (simp only [List.length_drop, List.length_take]; rfl)) ?_; (with_reducible refine (link_Title.calls ((a0.extract 0 (t210 : Int).toNat) ++ a1) t211 t212 _ ?side1 A41.out).mono ?_); (case side1 => exact Laid.go hLd (by repeat (first | (with_reducible first | exact HB.out | apply below_alloc | apply pw_below_drewN | apply below_drew1) | exact HB.out))); rintro e w53 ⟨rfl, hb⟩; refine ⟨_, rfl, ?_⟩; have n0_ := Aside0.mk (below_step (by repeat (first | (with_reducible first | exact HB.out | apply below_alloc | apply pw_below_drewN | apply below_drew1) | exact HB.out)) hb); clear HB; have HB := n0_; clear n0_; (try clear hb); (try clear hb2); (try clear hk); (try clear hi)) | ((with_reducible refine gate_callee (f := 14) rfl ?_); refine goesL_ (some 98) rfl rfl Tryz.func14 (by kernel_rfl) rfl #[.string (a0.extract 0 ((ji42) : Int).toNat)] rfl (by (try simp only [List.map_toArray, List.map_cons, List.map_nil]); first | done | (simp only [hji42]; rfl) | rfl | (simp only [List.length_drop, List.length_take]; rfl)) ?_; (with_reducible refine (link_Title.calls (a0.extract 0 ((ji42) : Int).toNat) t213 t214 _ ?side1 A45.out).mono ?_); (case side1 => exact Laid.go hLd (by repeat (first | (with_reducible first | exact HB.out | apply below_alloc | apply pw_below_drewN | apply below_drew1) | exact HB.out))); rintro e w54 ⟨rfl, hb⟩; refine ⟨_, rfl, ?_⟩; have n0_ := Aside0.mk (below_step (by repeat (first | (with_reducible first | exact HB.out | apply below_alloc | apply pw_below_drewN | apply below_drew1) | exact HB.out)) hb); clear HB; have HB := n0_; clear n0_; (try clear hb); (try clear hb2); (try clear hk); (try clear hi)))
                              go_ret
                              exact ⟨by first | rfl | (refine retEq ?_; first | exact szw c61b7 (by decide) (by decide) | exact szw c40b7 (by decide) (by decide) | exact szw c14b7 (by decide) (by decide)) | (simp [errW_none, errW_some] <;> rfl) | (simp only [← hji42]; first | rfl | (simp [errW_none, errW_some] <;> rfl)) | (simp [*, errW_none, errW_some] <;> rfl), by repeat (first | (with_reducible first | exact HB.out | apply below_alloc | apply pw_below_drewN | apply below_drew1) | exact HB.out)⟩
                          · rw [if_neg c46] at H
                            have c46b0 : (t209.toList == t211.toList) = false := beq_eq_false_iff_ne.mpr c46
                            have c46b1 : (t209.toList != t211.toList) = true := bne_iff_ne.mpr c46
                            obtain rfl := Option.some.inj H
                            go_wp2_with (first | ((with_reducible refine gate_callee (f := 14) rfl ?_); refine goesL_ (some 90) rfl rfl Tryz.func14 (by kernel_rfl) rfl #[.string ((a0.extract 0 (t210 : Int).toNat) ++ a1)] rfl (by (try simp only [List.map_toArray, List.map_cons, List.map_nil]); first | done | rfl | (simp only [List.length_drop, List.length_take]; rfl)) ?_; (with_reducible refine (link_Title.calls ((a0.extract 0 (t210 : Int).toNat) ++ a1) t211 t212 _ ?side1 A41.out).mono ?_); (case side1 => exact Laid.go hLd (by repeat (first | (with_reducible first | exact HB.out | apply below_alloc | apply pw_below_drewN | apply below_drew1) | exact HB.out))); rintro e w55 ⟨rfl, hb⟩; refine ⟨_, rfl, ?_⟩; have n0_ := Aside0.mk (below_step (by repeat (first | (with_reducible first | exact HB.out | apply below_alloc | apply pw_below_drewN | apply below_drew1) | exact HB.out)) hb); clear HB; have HB := n0_; clear n0_; (try clear hb); (try clear hb2); (try clear hk); (try clear hi)) | ((with_reducible refine gate_callee (f := 14) rfl ?_); refine goesL_ (some 98) rfl rfl Tryz.func14 (by kernel_rfl) rfl #[.string (a0.extract 0 ((ji42) : Int).toNat)] rfl (by (try simp only [List.map_toArray, List.map_cons, List.map_nil]); first | done | (simp only [hji42]; rfl) | rfl | (simp only [List.length_drop, List.length_take]; rfl)) ?_; (with_reducible refine (link_Title.calls (a0.extract 0 ((ji42) : Int).toNat) t213 t214 _ ?side1 A45.out).mono ?_); (case side1 => exact Laid.go hLd (by repeat (first | (with_reducible first | exact HB.out | apply below_alloc | apply pw_below_drewN | apply below_drew1) | exact HB.out))); rintro e w56 ⟨rfl, hb⟩; refine ⟨_, rfl, ?_⟩; have n0_ := Aside0.mk (below_step (by repeat (first | (with_reducible first | exact HB.out | apply below_alloc | apply pw_below_drewN | apply below_drew1) | exact HB.out)) hb); clear HB; have HB := n0_; clear n0_; (try clear hb); (try clear hb2); (try clear hk); (try clear hi)))
                            go_ret
                            exact ⟨by first | rfl | (refine retEq ?_; first | exact szw c61b7 (by decide) (by decide) | exact szw c40b7 (by decide) (by decide) | exact szw c14b7 (by decide) (by decide)) | (simp [errW_none, errW_some] <;> rfl) | (simp only [← hji42]; first | rfl | (simp [errW_none, errW_some] <;> rfl)) | (simp [*, errW_none, errW_some] <;> rfl), by repeat (first | (with_reducible first | exact HB.out | apply below_alloc | apply pw_below_drewN | apply below_drew1) | exact HB.out)⟩
                        · rw [if_neg c44] at H
                          exact absurd H (by simp)
                      · rw [if_neg c43] at H
                        exact absurd H (by simp)
                    · rw [if_neg c40] at H
                      exact absurd H (by simp)
                  · rw [if_neg c39] at H
                    exact absurd H (by simp)
                · rw [if_neg c38] at H
                  exact absurd H (by simp)
              · rw [if_neg c37] at H
                have c37b0 : decide (0 < t210) = false := decide_eq_false c37
                clear c37
                (first | rw [c37b0] | (simp only [i64_w, i32_w]; rw [c37b0]) | skip)
                have H' := Aside0.mk H
                clear H
                go_wp2
                go_meet
                case rel => exact ⟨_, H', ⟨by have := HJ3.out; have := HJ8.out; first | omega | exact Nat.le_refl _⟩, ⟨by repeat (first | (with_reducible first | exact HB.out | apply below_alloc | apply pw_below_drewN | apply below_drew1) | exact HB.out)⟩⟩
            case rest =>
              clear HC35
              try clear c1
              try clear c2
              try clear p2
              try clear c3
              try clear c4
              try clear c6
              try clear c6b0
              try clear c6b1
              try clear p6
              try clear c7
              try clear c9
              try clear c10
              try clear c11
              try clear c11b0
              try clear c12
              try clear c12b0
              try clear c12b1
              try clear c13
              try clear c13b0
              try clear c13b1
              try clear c14
              try clear c14b0
              try clear c14b1
              try clear c14b2
              try clear c17
              try clear c17b0
              try clear c17b1
              try clear c18
              try clear c18b0
              try clear c18b1
              try clear c20
              try clear c20b0
              try clear c20b1
              try clear c21
              try clear c21b0
              try clear c21b1
              try clear c22
              try clear c22b0
              try clear c22b1
              try clear c23
              try clear c23b0
              try clear c23b1
              try clear c37
              try clear c37b0
              try clear c38
              try clear c38b0
              try clear c38b1
              try clear c39
              try clear c39b0
              try clear c39b1
              try clear c40
              try clear c40b0
              try clear c40b1
              try clear c40b2
              try clear c43
              try clear c43b0
              try clear c43b1
              try clear c44
              try clear c44b0
              try clear c44b1
              try clear c46
              try clear c46b0
              try clear c46b1
              try clear c47
              try clear c47b0
              try clear c47b1
              try clear c48
              try clear c48b0
              try clear c48b1
              try clear p2
              try clear p6
              obtain ⟨kq, HA, HJ34, HB⟩ := hcut
              cases kq with
              | zero => exact absurd HA.out (by simp [incipitlaw09_LinkEnds.j2])
              | succ kj34 =>
                have H := HA.out
                clear HA
                simp only [incipitlaw09_LinkEnds.j2] at H
                replace H := Option.bind_eq_some_iff.mp H
                obtain ⟨⟨t215, t216, t217⟩, A570, H⟩ := H
                replace H : (if t217 > 0 then (if 0 ≤ t217 then (if t217 ≤ (a0.size : Int) then (if (a0.extract 0 (t217 : Int).toNat).size + a1.size ≤ 9223372036854775807 then ((link_Tail.f kj34 ((a0.extract 0 (t217 : Int).toNat) ++ a1)).bind fun bt218 => (if t215.toList = bt218.1.toList then (if t216.toList = bt218.2.1.toList then (if t217 = bt218.2.2 then (if 0 < (a0.size : Int) then (if (bt a0 0) = 40 then (if 0 ≤ (wrap64 (t217 - 1)) then (if (wrap64 (t217 - 1)) < (a0.size : Int) then (if (bt a0 (wrap64 (t217 - 1))) = 41 then (some t202) else (some false)) else (none)) else (none)) else (some false)) else (none)) else (some false)) else (some false)) else (some false))) else (none)) else (none)) else (none)) else (some t202)) = some r := H
                have A57 := Aside0.mk A570
                clear A570
                by_cases c58 : t217 > 0
                · rw [if_pos c58] at H
                  have c58b0 : decide (0 < t217) = true := decide_eq_true c58
                  clear c58
                  by_cases c59 : 0 ≤ t217
                  · rw [if_pos c59] at H
                    have c59b0 := eq_true c59
                    have c59b1 : decide (0 ≤ t217) = true := decide_eq_true c59
                    clear c59
                    by_cases c60 : t217 ≤ (a0.size : Int)
                    · rw [if_pos c60] at H
                      have c60b0 := eq_true c60
                      have c60b1 : decide (t217 ≤ (a0.size : Int)) = true := decide_eq_true c60
                      clear c60
                      by_cases c61 : (a0.extract 0 (t217 : Int).toNat).size + a1.size ≤ 9223372036854775807
                      · rw [if_pos c61] at H
                        have c61b0 := eq_true c61
                        have c61b1 : decide ((a0.extract 0 (t217 : Int).toNat).size + a1.size ≤ 9223372036854775807) = true := decide_eq_true c61
                        have c61b4 := c61
                        (try simp only [ByteArray.size_append, ByteArray.size_extract, Nat.min_self] at c61b4)
                        (try have c61b5 := Nat.not_lt.2 c61b4)
                        (try have c61b7 : ¬ 9223372036854775807 < (a0.extract 0 (t217 : Int).toNat).size + a1.size := by have hh := c61; simp only [ByteArray.size_append] at hh; exact Nat.not_lt.2 hh)
                        (try have c61b9 : ¬ 9223372036854775807 < min (t217 : Int).toNat a0.size + a1.size := by have hh := c61; simp only [ByteArray.size_append, ByteArray.size_extract, Nat.min_self] at hh; first | exact Nat.not_lt.2 hh | (have hh2 := hh; simp only [ByteArray.size] at hh2 ⊢; omega))
                        (try have c61b6 : ¬ 9223372036854775807 < (t217 : Int).toNat + a1.size := by have hh := c61; (try simp only [decide_eq_true_eq] at *); simp only [ByteArray.size_extract] at hh; omega)
                        try have c61b2 : (9223372036854775807 < (a0.extract 0 (t217 : Int).toNat).size + a1.size) = False := eq_false (Nat.not_lt.2 c61)
                        replace H := Option.bind_eq_some_iff.mp H
                        obtain ⟨⟨t218, t219, t220⟩, A620, H⟩ := H
                        replace H : (if t215.toList = t218.toList then (if t216.toList = t219.toList then (if t217 = t220 then (if 0 < (a0.size : Int) then (if (bt a0 0) = 40 then (if 0 ≤ (wrap64 (t217 - 1)) then (if (wrap64 (t217 - 1)) < (a0.size : Int) then (if (bt a0 (wrap64 (t217 - 1))) = 41 then (some t202) else (some false)) else (none)) else (none)) else (some false)) else (none)) else (some false)) else (some false)) else (some false)) = some r := H
                        have A62 := Aside0.mk A620
                        clear A620
                        by_cases c63 : t215.toList = t218.toList
                        · rw [if_pos c63] at H
                          have c63b0 : (t215.toList == t218.toList) = true := beq_iff_eq.mpr c63
                          have c63b1 : (t215.toList != t218.toList) = false := bne_eq_false_iff_eq.mpr c63
                          clear c63
                          by_cases c64 : t216.toList = t219.toList
                          · rw [if_pos c64] at H
                            have c64b0 : (t216.toList == t219.toList) = true := beq_iff_eq.mpr c64
                            have c64b1 : (t216.toList != t219.toList) = false := bne_eq_false_iff_eq.mpr c64
                            clear c64
                            by_cases c65 : t217 = t220
                            · rw [if_pos c65] at H
                              have c65b0 : (t217 == t220) = true := beq_iff_eq.mpr c65
                              have c65b1 : (t217 != t220) = false := bne_eq_false_iff_eq.mpr c65
                              clear c65
                              by_cases c66 : 0 < (a0.size : Int)
                              · rw [if_pos c66] at H
                                have c66b0 : decide (0 < (a0.size : Int)) = true := decide_eq_true c66
                                have c66b1 : decide (0 < a0.size) = true := decide_eq_true (by omega)
                                clear c66
                                by_cases c68 : (bt a0 0) = 40
                                · rw [if_pos c68] at H
                                  have c68b0 : ((bt a0 0) == 40) = true := beq_iff_eq.mpr c68
                                  have c68b1 : ((bt a0 0) != 40) = false := bne_eq_false_iff_eq.mpr c68
                                  clear c68
                                  obtain ⟨ji69, hji69⟩ : ∃ j_ : Int, (wrap64 (t217 - 1)) = j_ := ⟨_, rfl⟩
                                  replace H : (if 0 ≤ (ji69) then (if (ji69) < (a0.size : Int) then (if (bt a0 (ji69)) = 41 then (some t202) else (some false)) else (none)) else (none)) = some r := by first | (rw [hji69] at H; exact H) | (simp only [hji69] at H ⊢; exact H)
                                  (try rw [hji69] at A57)
                                  (try rw [hji69] at A62)
                                  have hji69w : (IntKind.i64.wrap (t217 - 1)) = ji69 := (i64_w _).trans hji69
                                  by_cases c70 : 0 ≤ (ji69)
                                  · rw [if_pos c70] at H
                                    have c70b0 : decide (0 ≤ (ji69)) = true := decide_eq_true c70
                                    clear c70
                                    by_cases c71 : (ji69) < (a0.size : Int)
                                    · rw [if_pos c71] at H
                                      have c71b0 : decide ((ji69) < (a0.size : Int)) = true := decide_eq_true c71
                                      clear c71
                                      by_cases c73 : (bt a0 (ji69)) = 41
                                      · rw [if_pos c73] at H
                                        have c73b0 : ((bt a0 (ji69)) == 41) = true := beq_iff_eq.mpr c73
                                        have c73b1 : ((bt a0 (ji69)) != 41) = false := bne_eq_false_iff_eq.mpr c73
                                        clear c73
                                        obtain rfl := Option.some.inj H
                                        go_wp2_with (first | ((with_reducible refine gate_callee (f := 16) rfl ?_); refine goesL_ (some 115) rfl rfl Tryz.func16 (by kernel_rfl) rfl #[.string a0] rfl (by (try simp only [List.map_toArray, List.map_cons, List.map_nil]); first | done | rfl | (simp only [List.length_drop, List.length_take]; rfl)) ?_; (with_reducible refine (link_Tail.calls kj34 a0 t215 t216 t217 _ ?side1 A57.out).mono ?_); (case side1 => exact Laid.go hLd (by repeat (first | (with_reducible first | exact HB.out | apply below_alloc | apply pw_below_drewN | apply below_drew1) | exact HB.out))); rintro e w74 ⟨rfl, hb⟩; refine ⟨_, rfl, ?_⟩; have n0_ := Aside0.mk (below_step (by repeat (first | (with_reducible first | exact HB.out | apply below_alloc | apply pw_below_drewN | apply below_drew1) | exact HB.out)) hb); clear HB; have HB := n0_; clear n0_; (try clear hb); (try clear hb2); (try clear hk); (try clear hi)) | ((with_reducible refine gate_callee (f := 16) rfl ?_); refine goesL_ (some 127) rfl rfl Tryz.func16 (by kernel_rfl) rfl #[.string ((a0.extract 0 (t217 : Int).toNat) ++ a1)] rfl (by (try simp only [List.map_toArray, List.map_cons, List.map_nil]); first | done | rfl | (simp only [List.length_drop, List.length_take]; rfl)) ?_; (with_reducible refine (link_Tail.calls kj34 ((a0.extract 0 (t217 : Int).toNat) ++ a1) t218 t219 t220 _ ?side1 A62.out).mono ?_); (case side1 => exact Laid.go hLd (by repeat (first | (with_reducible first | exact HB.out | apply below_alloc | apply pw_below_drewN | apply below_drew1) | exact HB.out))); rintro e w75 ⟨rfl, hb⟩; refine ⟨_, rfl, ?_⟩; have n0_ := Aside0.mk (below_step (by repeat (first | (with_reducible first | exact HB.out | apply below_alloc | apply pw_below_drewN | apply below_drew1) | exact HB.out)) hb); clear HB; have HB := n0_; clear n0_; (try clear hb); (try clear hb2); (try clear hk); (try clear hi); have p67 : 0 ≤ (0 : Int) := (by omega); have q67 : 0 < a0.size := (by have : (0 : Int) < (a0.size : Int) := of_decide_eq_true (by first | (with_reducible assumption) | assumption); omega); have hx67 : ∀ h : 0 < a0.size, ((a0[0]'h).toNat : Int) = bt a0 0 := bt_at a0 0; clear p67; have qi67 : (0 < (a0.size : Int)) = True := eq_true (of_decide_eq_true (by first | (with_reducible assumption) | assumption)); replace q67 := eq_true q67; have p72 : 0 ≤ ((ji69) : Int) := of_decide_eq_true (by first | (with_reducible assumption) | assumption); have q72 : (ji69) < (a0.size : Int) := of_decide_eq_true (by first | (with_reducible assumption) | assumption); have hx72 := bt_at a0 (ji69); replace p72 := eq_true p72; replace q72 := eq_true q72))
                                        go_ret
                                        exact ⟨by first | rfl | (refine retEq ?_; first | exact szw c61b7 (by decide) (by decide) | exact szw c40b7 (by decide) (by decide) | exact szw c14b7 (by decide) (by decide)) | (simp [errW_none, errW_some] <;> rfl) | (simp only [← hji69]; first | rfl | (simp [errW_none, errW_some] <;> rfl)) | (simp [*, errW_none, errW_some] <;> rfl), by repeat (first | (with_reducible first | exact HB.out | apply below_alloc | apply pw_below_drewN | apply below_drew1) | exact HB.out)⟩
                                      · rw [if_neg c73] at H
                                        have c73b0 : ((bt a0 (ji69)) == 41) = false := beq_eq_false_iff_ne.mpr c73
                                        have c73b1 : ((bt a0 (ji69)) != 41) = true := bne_iff_ne.mpr c73
                                        obtain rfl := Option.some.inj H
                                        go_wp2_with (first | ((with_reducible refine gate_callee (f := 16) rfl ?_); refine goesL_ (some 115) rfl rfl Tryz.func16 (by kernel_rfl) rfl #[.string a0] rfl (by (try simp only [List.map_toArray, List.map_cons, List.map_nil]); first | done | rfl | (simp only [List.length_drop, List.length_take]; rfl)) ?_; (with_reducible refine (link_Tail.calls kj34 a0 t215 t216 t217 _ ?side1 A57.out).mono ?_); (case side1 => exact Laid.go hLd (by repeat (first | (with_reducible first | exact HB.out | apply below_alloc | apply pw_below_drewN | apply below_drew1) | exact HB.out))); rintro e w76 ⟨rfl, hb⟩; refine ⟨_, rfl, ?_⟩; have n0_ := Aside0.mk (below_step (by repeat (first | (with_reducible first | exact HB.out | apply below_alloc | apply pw_below_drewN | apply below_drew1) | exact HB.out)) hb); clear HB; have HB := n0_; clear n0_; (try clear hb); (try clear hb2); (try clear hk); (try clear hi)) | ((with_reducible refine gate_callee (f := 16) rfl ?_); refine goesL_ (some 127) rfl rfl Tryz.func16 (by kernel_rfl) rfl #[.string ((a0.extract 0 (t217 : Int).toNat) ++ a1)] rfl (by (try simp only [List.map_toArray, List.map_cons, List.map_nil]); first | done | rfl | (simp only [List.length_drop, List.length_take]; rfl)) ?_; (with_reducible refine (link_Tail.calls kj34 ((a0.extract 0 (t217 : Int).toNat) ++ a1) t218 t219 t220 _ ?side1 A62.out).mono ?_); (case side1 => exact Laid.go hLd (by repeat (first | (with_reducible first | exact HB.out | apply below_alloc | apply pw_below_drewN | apply below_drew1) | exact HB.out))); rintro e w77 ⟨rfl, hb⟩; refine ⟨_, rfl, ?_⟩; have n0_ := Aside0.mk (below_step (by repeat (first | (with_reducible first | exact HB.out | apply below_alloc | apply pw_below_drewN | apply below_drew1) | exact HB.out)) hb); clear HB; have HB := n0_; clear n0_; (try clear hb); (try clear hb2); (try clear hk); (try clear hi); have p67 : 0 ≤ (0 : Int) := (by omega); have q67 : 0 < a0.size := (by have : (0 : Int) < (a0.size : Int) := of_decide_eq_true (by first | (with_reducible assumption) | assumption); omega); have hx67 : ∀ h : 0 < a0.size, ((a0[0]'h).toNat : Int) = bt a0 0 := bt_at a0 0; clear p67; have qi67 : (0 < (a0.size : Int)) = True := eq_true (of_decide_eq_true (by first | (with_reducible assumption) | assumption)); replace q67 := eq_true q67; have p72 : 0 ≤ ((ji69) : Int) := of_decide_eq_true (by first | (with_reducible assumption) | assumption); have q72 : (ji69) < (a0.size : Int) := of_decide_eq_true (by first | (with_reducible assumption) | assumption); have hx72 := bt_at a0 (ji69); replace p72 := eq_true p72; replace q72 := eq_true q72))
                                        go_ret
                                        exact ⟨by first | rfl | (refine retEq ?_; first | exact szw c61b7 (by decide) (by decide) | exact szw c40b7 (by decide) (by decide) | exact szw c14b7 (by decide) (by decide)) | (simp [errW_none, errW_some] <;> rfl) | (simp only [← hji69]; first | rfl | (simp [errW_none, errW_some] <;> rfl)) | (simp [*, errW_none, errW_some] <;> rfl), by repeat (first | (with_reducible first | exact HB.out | apply below_alloc | apply pw_below_drewN | apply below_drew1) | exact HB.out)⟩
                                    · rw [if_neg c71] at H
                                      exact absurd H (by simp)
                                  · rw [if_neg c70] at H
                                    exact absurd H (by simp)
                                · rw [if_neg c68] at H
                                  have c68b0 : ((bt a0 0) == 40) = false := beq_eq_false_iff_ne.mpr c68
                                  have c68b1 : ((bt a0 0) != 40) = true := bne_iff_ne.mpr c68
                                  obtain rfl := Option.some.inj H
                                  go_wp2_with (first | ((with_reducible refine gate_callee (f := 16) rfl ?_); refine goesL_ (some 115) rfl rfl Tryz.func16 (by kernel_rfl) rfl #[.string a0] rfl (by (try simp only [List.map_toArray, List.map_cons, List.map_nil]); first | done | rfl | (simp only [List.length_drop, List.length_take]; rfl)) ?_; (with_reducible refine (link_Tail.calls kj34 a0 t215 t216 t217 _ ?side1 A57.out).mono ?_); (case side1 => exact Laid.go hLd (by repeat (first | (with_reducible first | exact HB.out | apply below_alloc | apply pw_below_drewN | apply below_drew1) | exact HB.out))); rintro e w78 ⟨rfl, hb⟩; refine ⟨_, rfl, ?_⟩; have n0_ := Aside0.mk (below_step (by repeat (first | (with_reducible first | exact HB.out | apply below_alloc | apply pw_below_drewN | apply below_drew1) | exact HB.out)) hb); clear HB; have HB := n0_; clear n0_; (try clear hb); (try clear hb2); (try clear hk); (try clear hi)) | ((with_reducible refine gate_callee (f := 16) rfl ?_); refine goesL_ (some 127) rfl rfl Tryz.func16 (by kernel_rfl) rfl #[.string ((a0.extract 0 (t217 : Int).toNat) ++ a1)] rfl (by (try simp only [List.map_toArray, List.map_cons, List.map_nil]); first | done | rfl | (simp only [List.length_drop, List.length_take]; rfl)) ?_; (with_reducible refine (link_Tail.calls kj34 ((a0.extract 0 (t217 : Int).toNat) ++ a1) t218 t219 t220 _ ?side1 A62.out).mono ?_); (case side1 => exact Laid.go hLd (by repeat (first | (with_reducible first | exact HB.out | apply below_alloc | apply pw_below_drewN | apply below_drew1) | exact HB.out))); rintro e w79 ⟨rfl, hb⟩; refine ⟨_, rfl, ?_⟩; have n0_ := Aside0.mk (below_step (by repeat (first | (with_reducible first | exact HB.out | apply below_alloc | apply pw_below_drewN | apply below_drew1) | exact HB.out)) hb); clear HB; have HB := n0_; clear n0_; (try clear hb); (try clear hb2); (try clear hk); (try clear hi); have p67 : 0 ≤ (0 : Int) := (by omega); have q67 : 0 < a0.size := (by have : (0 : Int) < (a0.size : Int) := of_decide_eq_true (by first | (with_reducible assumption) | assumption); omega); have hx67 : ∀ h : 0 < a0.size, ((a0[0]'h).toNat : Int) = bt a0 0 := bt_at a0 0; clear p67; have qi67 : (0 < (a0.size : Int)) = True := eq_true (of_decide_eq_true (by first | (with_reducible assumption) | assumption)); replace q67 := eq_true q67))
                                  go_ret
                                  exact ⟨by first | rfl | (refine retEq ?_; first | exact szw c61b7 (by decide) (by decide) | exact szw c40b7 (by decide) (by decide) | exact szw c14b7 (by decide) (by decide)) | (simp [errW_none, errW_some] <;> rfl) | (simp [*, errW_none, errW_some] <;> rfl), by repeat (first | (with_reducible first | exact HB.out | apply below_alloc | apply pw_below_drewN | apply below_drew1) | exact HB.out)⟩
                              · rw [if_neg c66] at H
                                exact absurd H (by simp)
                            · rw [if_neg c65] at H
                              have c65b0 : (t217 == t220) = false := beq_eq_false_iff_ne.mpr c65
                              have c65b1 : (t217 != t220) = true := bne_iff_ne.mpr c65
                              obtain rfl := Option.some.inj H
                              go_wp2_with (first | ((with_reducible refine gate_callee (f := 16) rfl ?_); refine goesL_ (some 115) rfl rfl Tryz.func16 (by kernel_rfl) rfl #[.string a0] rfl (by (try simp only [List.map_toArray, List.map_cons, List.map_nil]); first | done | rfl | (simp only [List.length_drop, List.length_take]; rfl)) ?_; (with_reducible refine (link_Tail.calls kj34 a0 t215 t216 t217 _ ?side1 A57.out).mono ?_); (case side1 => exact Laid.go hLd (by repeat (first | (with_reducible first | exact HB.out | apply below_alloc | apply pw_below_drewN | apply below_drew1) | exact HB.out))); rintro e w80 ⟨rfl, hb⟩; refine ⟨_, rfl, ?_⟩; have n0_ := Aside0.mk (below_step (by repeat (first | (with_reducible first | exact HB.out | apply below_alloc | apply pw_below_drewN | apply below_drew1) | exact HB.out)) hb); clear HB; have HB := n0_; clear n0_; (try clear hb); (try clear hb2); (try clear hk); (try clear hi)) | ((with_reducible refine gate_callee (f := 16) rfl ?_); refine goesL_ (some 127) rfl rfl Tryz.func16 (by kernel_rfl) rfl #[.string ((a0.extract 0 (t217 : Int).toNat) ++ a1)] rfl (by (try simp only [List.map_toArray, List.map_cons, List.map_nil]); first | done | rfl | (simp only [List.length_drop, List.length_take]; rfl)) ?_; (with_reducible refine (link_Tail.calls kj34 ((a0.extract 0 (t217 : Int).toNat) ++ a1) t218 t219 t220 _ ?side1 A62.out).mono ?_); (case side1 => exact Laid.go hLd (by repeat (first | (with_reducible first | exact HB.out | apply below_alloc | apply pw_below_drewN | apply below_drew1) | exact HB.out))); rintro e w81 ⟨rfl, hb⟩; refine ⟨_, rfl, ?_⟩; have n0_ := Aside0.mk (below_step (by repeat (first | (with_reducible first | exact HB.out | apply below_alloc | apply pw_below_drewN | apply below_drew1) | exact HB.out)) hb); clear HB; have HB := n0_; clear n0_; (try clear hb); (try clear hb2); (try clear hk); (try clear hi)))
                              go_ret
                              exact ⟨by first | rfl | (refine retEq ?_; first | exact szw c61b7 (by decide) (by decide) | exact szw c40b7 (by decide) (by decide) | exact szw c14b7 (by decide) (by decide)) | (simp [errW_none, errW_some] <;> rfl) | (simp [*, errW_none, errW_some] <;> rfl), by repeat (first | (with_reducible first | exact HB.out | apply below_alloc | apply pw_below_drewN | apply below_drew1) | exact HB.out)⟩
                          · rw [if_neg c64] at H
                            have c64b0 : (t216.toList == t219.toList) = false := beq_eq_false_iff_ne.mpr c64
                            have c64b1 : (t216.toList != t219.toList) = true := bne_iff_ne.mpr c64
                            obtain rfl := Option.some.inj H
                            go_wp2_with (first | ((with_reducible refine gate_callee (f := 16) rfl ?_); refine goesL_ (some 115) rfl rfl Tryz.func16 (by kernel_rfl) rfl #[.string a0] rfl (by (try simp only [List.map_toArray, List.map_cons, List.map_nil]); first | done | rfl | (simp only [List.length_drop, List.length_take]; rfl)) ?_; (with_reducible refine (link_Tail.calls kj34 a0 t215 t216 t217 _ ?side1 A57.out).mono ?_); (case side1 => exact Laid.go hLd (by repeat (first | (with_reducible first | exact HB.out | apply below_alloc | apply pw_below_drewN | apply below_drew1) | exact HB.out))); rintro e w82 ⟨rfl, hb⟩; refine ⟨_, rfl, ?_⟩; have n0_ := Aside0.mk (below_step (by repeat (first | (with_reducible first | exact HB.out | apply below_alloc | apply pw_below_drewN | apply below_drew1) | exact HB.out)) hb); clear HB; have HB := n0_; clear n0_; (try clear hb); (try clear hb2); (try clear hk); (try clear hi)) | ((with_reducible refine gate_callee (f := 16) rfl ?_); refine goesL_ (some 127) rfl rfl Tryz.func16 (by kernel_rfl) rfl #[.string ((a0.extract 0 (t217 : Int).toNat) ++ a1)] rfl (by (try simp only [List.map_toArray, List.map_cons, List.map_nil]); first | done | rfl | (simp only [List.length_drop, List.length_take]; rfl)) ?_; (with_reducible refine (link_Tail.calls kj34 ((a0.extract 0 (t217 : Int).toNat) ++ a1) t218 t219 t220 _ ?side1 A62.out).mono ?_); (case side1 => exact Laid.go hLd (by repeat (first | (with_reducible first | exact HB.out | apply below_alloc | apply pw_below_drewN | apply below_drew1) | exact HB.out))); rintro e w83 ⟨rfl, hb⟩; refine ⟨_, rfl, ?_⟩; have n0_ := Aside0.mk (below_step (by repeat (first | (with_reducible first | exact HB.out | apply below_alloc | apply pw_below_drewN | apply below_drew1) | exact HB.out)) hb); clear HB; have HB := n0_; clear n0_; (try clear hb); (try clear hb2); (try clear hk); (try clear hi)))
                            go_ret
                            exact ⟨by first | rfl | (refine retEq ?_; first | exact szw c61b7 (by decide) (by decide) | exact szw c40b7 (by decide) (by decide) | exact szw c14b7 (by decide) (by decide)) | (simp [errW_none, errW_some] <;> rfl) | (simp [*, errW_none, errW_some] <;> rfl), by repeat (first | (with_reducible first | exact HB.out | apply below_alloc | apply pw_below_drewN | apply below_drew1) | exact HB.out)⟩
                        · rw [if_neg c63] at H
                          have c63b0 : (t215.toList == t218.toList) = false := beq_eq_false_iff_ne.mpr c63
                          have c63b1 : (t215.toList != t218.toList) = true := bne_iff_ne.mpr c63
                          obtain rfl := Option.some.inj H
                          go_wp2_with (first | ((with_reducible refine gate_callee (f := 16) rfl ?_); refine goesL_ (some 115) rfl rfl Tryz.func16 (by kernel_rfl) rfl #[.string a0] rfl (by (try simp only [List.map_toArray, List.map_cons, List.map_nil]); first | done | rfl | (simp only [List.length_drop, List.length_take]; rfl)) ?_; (with_reducible refine (link_Tail.calls kj34 a0 t215 t216 t217 _ ?side1 A57.out).mono ?_); (case side1 => exact Laid.go hLd (by repeat (first | (with_reducible first | exact HB.out | apply below_alloc | apply pw_below_drewN | apply below_drew1) | exact HB.out))); rintro e w84 ⟨rfl, hb⟩; refine ⟨_, rfl, ?_⟩; have n0_ := Aside0.mk (below_step (by repeat (first | (with_reducible first | exact HB.out | apply below_alloc | apply pw_below_drewN | apply below_drew1) | exact HB.out)) hb); clear HB; have HB := n0_; clear n0_; (try clear hb); (try clear hb2); (try clear hk); (try clear hi)) | ((with_reducible refine gate_callee (f := 16) rfl ?_); refine goesL_ (some 127) rfl rfl Tryz.func16 (by kernel_rfl) rfl #[.string ((a0.extract 0 (t217 : Int).toNat) ++ a1)] rfl (by (try simp only [List.map_toArray, List.map_cons, List.map_nil]); first | done | rfl | (simp only [List.length_drop, List.length_take]; rfl)) ?_; (with_reducible refine (link_Tail.calls kj34 ((a0.extract 0 (t217 : Int).toNat) ++ a1) t218 t219 t220 _ ?side1 A62.out).mono ?_); (case side1 => exact Laid.go hLd (by repeat (first | (with_reducible first | exact HB.out | apply below_alloc | apply pw_below_drewN | apply below_drew1) | exact HB.out))); rintro e w85 ⟨rfl, hb⟩; refine ⟨_, rfl, ?_⟩; have n0_ := Aside0.mk (below_step (by repeat (first | (with_reducible first | exact HB.out | apply below_alloc | apply pw_below_drewN | apply below_drew1) | exact HB.out)) hb); clear HB; have HB := n0_; clear n0_; (try clear hb); (try clear hb2); (try clear hk); (try clear hi)))
                          go_ret
                          exact ⟨by first | rfl | (refine retEq ?_; first | exact szw c61b7 (by decide) (by decide) | exact szw c40b7 (by decide) (by decide) | exact szw c14b7 (by decide) (by decide)) | (simp [errW_none, errW_some] <;> rfl) | (simp [*, errW_none, errW_some] <;> rfl), by repeat (first | (with_reducible first | exact HB.out | apply below_alloc | apply pw_below_drewN | apply below_drew1) | exact HB.out)⟩
                      · rw [if_neg c61] at H
                        exact absurd H (by simp)
                    · rw [if_neg c60] at H
                      exact absurd H (by simp)
                  · rw [if_neg c59] at H
                    exact absurd H (by simp)
                · rw [if_neg c58] at H
                  have c58b0 : decide (0 < t217) = false := decide_eq_false c58
                  clear c58
                  obtain rfl := Option.some.inj H
                  go_wp2_with (first | ((with_reducible refine gate_callee (f := 16) rfl ?_); refine goesL_ (some 115) rfl rfl Tryz.func16 (by kernel_rfl) rfl #[.string a0] rfl (by (try simp only [List.map_toArray, List.map_cons, List.map_nil]); first | done | rfl | (simp only [List.length_drop, List.length_take]; rfl)) ?_; (with_reducible refine (link_Tail.calls kj34 a0 t215 t216 t217 _ ?side1 A57.out).mono ?_); (case side1 => exact Laid.go hLd (by repeat (first | (with_reducible first | exact HB.out | apply below_alloc | apply pw_below_drewN | apply below_drew1) | exact HB.out))); rintro e w86 ⟨rfl, hb⟩; refine ⟨_, rfl, ?_⟩; have n0_ := Aside0.mk (below_step (by repeat (first | (with_reducible first | exact HB.out | apply below_alloc | apply pw_below_drewN | apply below_drew1) | exact HB.out)) hb); clear HB; have HB := n0_; clear n0_; (try clear hb); (try clear hb2); (try clear hk); (try clear hi)))
                  go_ret
                  exact ⟨by first | rfl | (refine retEq ?_; first | exact szw c61b7 (by decide) (by decide) | exact szw c40b7 (by decide) (by decide) | exact szw c14b7 (by decide) (by decide)) | (simp [errW_none, errW_some] <;> rfl) | (simp [*, errW_none, errW_some] <;> rfl), by repeat (first | (with_reducible first | exact HB.out | apply below_alloc | apply pw_below_drewN | apply below_drew1) | exact HB.out)⟩

end Go.Proofs.YtjobchgncdgfaaaGreatDoor.PA

namespace Go.Proofs.YtjobchgncdgfaaaGreatDoor.Pure
open Go.RowKit Go.Proofs.YtjobchgncdgfaaaGreatDoorW.PrintWords Go.Proofs.YtjobchgncdgfaaaGreatDoorW.PrintMore Go.Proofs.YtjobchgncdgfaaaGreatDoor.Pl Go.Proofs.YtjobchgncdgfaaaGreatDoor.PA

theorem ends2 (s m : List UInt8) (hs : s.length ≤ 1000) (hm : m.length ≤ 500) : Ev (fun k => incipitlaw09_LinkEnds.j2 k (B s) (B m) true) true := by
  have t1 := tail_ev s (by omega)
  obtain ⟨n, hn⟩ : ∃ n, (tlr s).2.2 = n := ⟨_, rfl⟩
  have hle := tlr_le s
  rw [hn] at hle
  by_cases h0 : 0 < n
  · obtain ⟨h1, h40, h41⟩ := tlr_st s m n hn h0
    have t2 := tail_ev (s.take n ++ m) (by rw [List.length_append, List.length_take]; omega)
    rw [h1] at t2
    rw [hn] at t1 t2
    have hl0 : 0 < s.length := by omega
    have hln : n - 1 < s.length := by omega
    have b0 : bt (B s) 0 = ((s[0]).toNat : Int) := B_bt s 0 hl0
    have b1 : bt (B s) ((n - 1 : Nat) : Int) = ((s[n - 1]).toNat : Int) := B_bt s _ hln
    rw [List.head?_eq_getElem?, List.getElem?_eq_getElem hl0] at h40
    rw [List.getElem?_eq_getElem hln] at h41
    rw [Option.some.inj h40] at b0
    rw [Option.some.inj h41] at b1
    have hx : (B s).extract 0 ((n : Int)).toNat = B (s.take n) := by rw [Int.toNat_natCast]; exact B_to s n
    have hw : wrap64 ((n : Int) - 1) = ((n - 1 : Nat) : Int) := by rw [w64 (by omega) (by omega)]; omega
    refine Ev.step (f := fun k => (link_Tail.f k (B s)).bind _) (fun k => by simp only [incipitlaw09_LinkEnds.j2]; rfl) (Ev.bind t1 ?_)
    refine Ev.congr (f := fun k => (link_Tail.f k (B (s.take n ++ m))).bind _) (fun k => by
      dsimp only
      rw [if_pos (ipos h0), if_pos (nn n), if_pos (szl hle), hx, if_pos (by rw [B_size, B_size, List.length_take]; omega), B_append]) (Ev.bind t2 ?_)
    refine Ev.congr (f := fun _ => some true) (fun k => ?_) (Ev.now _)
    dsimp only
    rw [if_pos (by rfl), if_pos (by rfl), if_pos (by rfl), if_pos (by rw [B_size]; omega), b0, if_pos (by rfl), hw, if_pos (nn _), if_pos (by rw [B_size]; omega), b1, if_pos (by rfl)]
  · rw [hn] at t1
    refine Ev.step (f := fun k => (link_Tail.f k (B s)).bind _) (fun k => by simp only [incipitlaw09_LinkEnds.j2]; rfl) (Ev.bind t1 ?_)
    exact Ev.congr (fun k => if_neg (inpos h0)) (Ev.now _)
theorem ends1 (s m : List UInt8) (hs : s.length ≤ 1000) (hm : m.length ≤ 500) : Ev (fun k => incipitlaw09_LinkEnds.j1 k (B s) (B m) true) true := by
  have t1 := title_f s (by omega)
  by_cases h0 : 0 < (ttl s).2
  · obtain ⟨q, a, y, u, rfl, h1, h2⟩ := ttl_dec s h0
    have hl : (q :: (a ++ y :: u)).length ≤ 1000 := hs
    simp only [List.length_cons, List.length_append] at hl
    rw [h1 u] at t1
    have x1 : (B (q :: (a ++ y :: u))).extract 0 (((a.length + 2 : Nat) : Int)).toNat = B (q :: (a ++ [y])) := by
      rw [Int.toNat_natCast, B_to]
      have := take_dec q y a u [] (a.length + 2) (Nat.le_refl _)
      rw [List.append_nil] at this
      rw [this]
      simp
    have x2 : (B (q :: (a ++ y :: u))).extract 0 (((a.length + 1 : Nat) : Int)).toNat = B (q :: a) := by
      rw [Int.toNat_natCast, B_to, List.take_succ_cons, List.take_left' rfl]
    have hw : wrap64 (((a.length + 2 : Nat) : Int) - 1) = ((a.length + 1 : Nat) : Int) := by rw [w64 (by omega) (by omega)]; omega
    refine Ev.step (fun k => ?_) (ends2 _ m hs hm)
    simp only [incipitlaw09_LinkEnds.j1]
    rw [t1, Option.bind_some]
    dsimp only
    rw [if_pos (ipos (by omega)), if_pos (nn _), if_pos (szl (by simp)), x1, if_pos (by rw [B_size, B_size]; simp; omega), B_append,
      show q :: (a ++ [y]) ++ m = q :: (a ++ y :: m) by simp, title_f _ (by simp; omega), h1 m, Option.bind_some, hw, if_pos (nn _), if_pos (szl (by simp)), x2, title_f _ (by simp; omega), h2, Option.bind_some]
    dsimp only
    rw [if_pos (by rfl), if_pos (by rfl), if_pos (by rfl)]
  · refine Ev.step (fun k => ?_) (ends2 _ m hs hm)
    simp only [incipitlaw09_LinkEnds.j1]
    rw [t1, Option.bind_some]
    exact if_neg (inpos h0)
theorem ends0 (s m : List UInt8) (hs : s.length ≤ 1000) (hm : m.length ≤ 500) : Ev (fun k => incipitlaw09_LinkEnds.j0 k (B s) (B m) true false) true := by
  have t1 := label_f s (by omega)
  by_cases h0 : 0 < (lab s).2
  · obtain ⟨a, y, u, rfl, h1, h2, _⟩ := lab_dec s h0
    have hl : (91 :: (a ++ y :: u)).length ≤ 1000 := hs
    simp only [List.length_cons, List.length_append] at hl
    rw [h1 u] at t1
    have x1 : (B (91 :: (a ++ y :: u))).extract 0 (((a.length + 2 : Nat) : Int)).toNat = B (91 :: (a ++ [y])) := by
      rw [Int.toNat_natCast, B_to]
      have := take_dec 91 y a u [] (a.length + 2) (Nat.le_refl _)
      rw [List.append_nil] at this
      rw [this]
      simp
    have x2 : (B (91 :: (a ++ y :: u))).extract 0 (((a.length + 1 : Nat) : Int)).toNat = B (91 :: a) := by
      rw [Int.toNat_natCast, B_to, List.take_succ_cons, List.take_left' rfl]
    have hw : wrap64 (((a.length + 2 : Nat) : Int) - 1) = ((a.length + 1 : Nat) : Int) := by rw [w64 (by omega) (by omega)]; omega
    have hw2 : wrap64 (((a.length + 2 : Nat) : Int) - 2) = (a.length : Int) := by rw [w64 (by omega) (by omega)]; omega
    refine Ev.step (fun k => ?_) (ends1 _ m hs hm)
    simp only [incipitlaw09_LinkEnds.j0]
    rw [if_neg (by decide), t1, Option.bind_some]
    dsimp only
    rw [if_pos (ipos (by omega)), if_pos (nn _), if_pos (szl (by simp)), x1, if_pos (by rw [B_size, B_size]; simp; omega), B_append,
      show 91 :: (a ++ [y]) ++ m = 91 :: (a ++ y :: m) by simp, label_f _ (by simp; omega), h1 m, Option.bind_some, hw, if_pos (nn _), if_pos (szl (by simp)), x2, label_f _ (by simp; omega), h2, Option.bind_some]
    dsimp only
    rw [if_pos (by rfl), if_pos (by rfl), if_pos (by rfl), hw2, B_size, if_pos (by rfl)]
  · refine Ev.step (fun k => ?_) (ends1 _ m hs hm)
    simp only [incipitlaw09_LinkEnds.j0]
    rw [if_neg (by decide), t1, Option.bind_some]
    exact if_neg (inpos h0)
theorem LinkEnds : ∀ (a0 : ByteArray) (a1 : ByteArray), a0.size ≤ 140737488351232 → a1.size ≤ 140737488351232 → ∃ k, PA.incipitlaw09_LinkEnds.f k a0 a1 = some true := by
  intro a0 a1 _ _
  obtain ⟨s, rfl⟩ : ∃ s, a0 = B s := ⟨_, (B_eta a0).symm⟩
  obtain ⟨m, rfl⟩ : ∃ s, a1 = B s := ⟨_, (B_eta a1).symm⟩
  apply Ev.rounds
  unfold incipitlaw09_LinkEnds.f
  refine Ev.bind awake_ev ?_
  have hj : Ev (fun k => incipitlaw09_LinkEnds.j0 k (B s) (B m) true true) true := by
    refine Ev.step (f := fun _ => some true) (fun k => ?_) (Ev.now _)
    simp only [incipitlaw09_LinkEnds.j0]
    exact if_pos trivial
  by_cases h : ((B s).size : Int) > 1000
  · exact Ev.congr (fun k => if_pos h) hj
  · refine Ev.congr (fun k => if_neg h) ?_
    by_cases h2 : ((B m).size : Int) > 500
    · rw [decide_eq_true h2]
      exact hj
    · rw [decide_eq_false h2]
      rw [B_size] at h h2
      exact ends0 s m (by omega) (by omega)
end Go.Proofs.YtjobchgncdgfaaaGreatDoor.Pure

namespace Go.Proofs.YtjobchgncdgfaaaGreatDoor.linkEnds
open Go.ChangeShapes Go.WideShapes Go.ChangeAt Go.RowKit Go.Proofs.YtjobchgncdgfaaaGreatDoorW.PrintWords Go.Proofs.YtjobchgncdgfaaaGreatDoor.RowU8
open Go.ChangeMaps (open_string shut_string)
set_option linter.unusedVariables false
set_option maxRecDepth 100000 in
theorem contract (H : Type) (enc : TypeId × Value → H) (W : World) (base : Nat) (args : Array Value) (ds gs : List (DataW H)) (before : List MemPlace)
    (hval0 : ∀ (j : Nat) t v, Tryz.f4.params[j]? = some t → args[j]? = some v → Value.okWide Tryz.prog W .any base t v)
    (hW : DataW.Whole enc Tryz.prog Tryz.f4.params.toList Rows.linkEndsSpec.vars false W args.toList ds gs before) (hsz0 : (DataW.weightsEach Tryz.prog (Tryz.f4.params.toList ++ (OpenSpec.ofChange Rows.linkEndsSpec).bare.plain.varTypes Tryz.prog) (ds ++ gs)).all (· ≤ reachBytes) = true) (hSh : W.ShapedOpen Tryz.prog) :
    Calls Tryz.prog 4 args W fun e W' => ∃ v, e = .returned v ∧ Rows.linkEndsSpec.post enc Tryz.prog Tryz.f4 false true false false W args v W' := by
  have hsz : (DataW.weightsEach Tryz.prog (Tryz.f4.params.toList ++ Rows.linkEndsSpec.plain.varTypes Tryz.prog) (ds ++ gs)).all (· ≤ reachBytes) = true := hsz0
  have hval : ∀ (j : Nat) t v, Tryz.f4.params[j]? = some t → args[j]? = some v → Value.okWide Tryz.prog W .any base t v := hval0
  have hW' := hW
  obtain ⟨p, q, hA0, hV, rfl, hfz, hnd⟩ := hW
  have hA : DataW.TrodAll enc Tryz.prog W 0 (fun _ => true) true Tryz.f4.params.toList args.toList ds p := hA0
  rw [Tryz.params4] at hA hval hsz
  obtain ⟨v0, vs0, d0, ds0, p0, q0, hargs, rfl, rfl, h0, r0⟩ := trodAll_cons hA
  obtain ⟨v1, vs1, d1, ds1, p1, q1, rfl, rfl, rfl, h1, r1⟩ := trodAll_cons r0
  obtain ⟨rfl, rfl, rfl⟩ := trodAll_nil r1
  obtain rfl : args = #[v0, v1] := by cases args; simp_all
  obtain ⟨rfl, rfl⟩ := trodVars_none hV
  obtain ⟨a0, rfl, rfl, rfl, y0⟩ := open_string Tryz.underlying9 (hval 0 9 v0 rfl rfl) h0
  have w0 : a0.size ≤ 140737488351232 := by
    have z := sized_string hsz (j := 0) (t := 9) rfl rfl
    rw [Array.length_toList] at z
    exact z
  obtain ⟨a1, rfl, rfl, rfl, y1⟩ := open_string Tryz.underlying9 (hval 1 9 v1 rfl rfl) h1
  have w1 : a1.size ≤ 140737488351232 := by
    have z := sized_string hsz (j := 1) (t := 9) rfl rfl
    rw [Array.length_toList] at z
    exact z
  clear hA0 hval0 hsz0 hsz
  obtain ⟨k, hp⟩ := Pure.LinkEnds a0 a1 w0 w1
  refine (PA.incipitlaw09_LinkEnds.calls k a0 a1 true W (laidOf hSh) hp).mono ?_
  rintro e W' ⟨rfl, bel⟩
  exact ⟨_, rfl, _, _, _, [], _, [], hW', trodAll_mk1 (shut_bool Tryz.underlying4 _), (trodAll_cons_mk (shut_string Tryz.underlying9 y0) (trodAll_cons_mk (shut_string Tryz.underlying9 y1) trodAll_mk0)), rfl, bel.frame _, fun h => by cases h⟩
theorem laid_met (os : Os) : laidMet Tryz.prog Rows.linkEndsRow.laid ((laidWorld os).forCall (fun _ _ => 0) ⟨#[], #[.string ByteArray.empty, .string ByteArray.empty], []⟩).memory :=
  laidMet_of_run' 8 (by kernel_rfl) (by kernel_rfl)
theorem reads (os : Os) {H : Type} (enc : TypeId × Value → H) : ∃ places, DataW.whole enc Tryz.prog ((laidWorld os).forCall (fun _ _ => 0) ⟨#[], #[.string ByteArray.empty, .string ByteArray.empty], []⟩).memory Tryz.f4.params.toList Rows.linkEndsSpec.vars false (#[.string ByteArray.empty, .string ByteArray.empty] : Array Value).toList 8 = some ([.lit (.string []), .lit (.string [])], [], places) :=
  ⟨[], by kernel_rfl⟩
set_option maxRecDepth 100000 in
theorem lifted (os : Os) (started : os.Started) (H : Type) (enc : TypeId × Value → H) (F : Stop.Interp) :
    ReturnsInHanded {} Tryz.checked os 4 .any ((OpenSpec.ofChange Rows.linkEndsSpec).preRow enc Tryz.prog Tryz.f4 Rows.linkEndsRow.domain false Rows.linkEndsRow.laid) (((OpenSpec.ofChange Rows.linkEndsSpec).at F).post enc Tryz.prog Tryz.f4 false true false false) := by
  obtain ⟨places, hx⟩ := reads os enc
  refine returnsInHanded_of_row (C := Tryz.checked) (s := OpenSpec.ofChange Rows.linkEndsSpec) own started (by kernel_rfl) Tryz.func4
    (witness_row_atRef (enc := enc) (C := Tryz.checked) false (laidWorld os) #[.string ByteArray.empty, .string ByteArray.empty] (laidWorld_os os) (by kernel_rfl) (by kernel_rfl) (by kernel_rfl)
      (OpenSpec.preRow_of_cond 8 hx (by kernel_rfl) (fun k hk => by cases hk) (by kernel_rfl) (laid_met os))) ?_
  intro W base args ds gs before hval hW _ _ hsz hL hSh _
  exact contract H enc W base args ds gs before hval hW hsz hSh
theorem said : Rows.LinkEndsSaid :=
  OpenClaim.holds_of_cond 4 Tryz.f4 rfl rfl rfl rfl rfl rfl rfl ⟨rfl, rfl, rfl, rfl, rfl⟩ rfl rfl rfl rfl rfl (by kernel_rfl) Tryz.func4 (by kernel_rfl)
    (of_decide_eq_true (by kernel_rfl)) (by unfold Func.isWrapper; first | (rw [if_pos (by decide +kernel)]; kernel_rfl) | (rw [if_neg (by decide +kernel)]; exact ⟨rfl, rfl⟩))
    (fun os started H enc _ F => by rw [OpenClaim.pre_eq_preRow]; exact lifted os started H enc F)
theorem plain (f : FuncId) (fn : Func) (hf : Tryz.pinned.checked.prog.funcNamed "incipit/incipitlaw09.LinkEnds" = some f) (hfn : Tryz.pinned.checked.prog.funcs[f]? = some fn) :
    true = Tryz.pinned.checked.prog.looks [] ∧ ∀ (j : Nat) t, fn.params[j]? = some t → Tryz.pinned.checked.prog.wantsStandIn t = false := by
  obtain rfl : f = 4 := Option.some.inj ((show Tryz.prog.funcNamed "incipit/incipitlaw09.LinkEnds" = some 4 by kernel_rfl).symm.trans hf) |>.symm
  obtain rfl : fn = Tryz.f4 := (Option.some.inj (Tryz.func4.symm.trans hfn)).symm
  refine ⟨by kernel_rfl, fun j t ht => ?_⟩
  rw [Tryz.params4] at ht
  have hall : ∀ t ∈ (#[9, 9] : Array Nat), Tryz.prog.wantsStandIn t = false := by
    intro t ht
    simp at ht
    subst ht
    exact (show Tryz.prog.wantsStandIn 9 = false by kernel_rfl)
  exact hall t (Array.mem_of_getElem? ht)
theorem card : Rows.LinkEndsCardSaid :=
  Claim7.holds_tied_plain_at .later [] _ _ _ _ said (fun _ h => by cases h) (by kernel_rfl) (fun _ h => by cases h) linkEnds_row_tie rfl ⟨rfl, rfl⟩ (by kernel_rfl) rfl plain (by kernel_rfl)
end Go.Proofs.YtjobchgncdgfaaaGreatDoor.linkEnds
namespace Go.Proofs.YtjobchgncdgfaaaGreatDoor
/-- The statement, under a short name, for the claim. -/
theorem linkEnds_holds : Rows.LinkEndsCardSaid := linkEnds.card
end Go.Proofs.YtjobchgncdgfaaaGreatDoor
