/-
  Facts on addresses: a text without a dot has none; two texts with a blank between have those of both.
-/
import Derived.Test.YtddmddlaamcpiaaDoorPAuto4
namespace Go.Proofs.YtddmddlaamcpiaaDoor.Pl
open Go.RowKit Go.Proofs.YtddmddlaamcpiaaDoorW.PrintWords Go.Proofs.YtddmddlaamcpiaaDoorW.PrintMore

theorem pts_none (h : List UInt8) (hn : (46 : UInt8) ∉ h) : pts h = [B h] := by
  have hc : Lib.countB (B h) ⟨#[46]⟩ = 0 := by
    show Lib.count (B h).data.toList [46] = 0
    rw [Lib.count_one, B_data]
    exact List.count_eq_zero.2 hn
  unfold pts
  rw [hc, Lib.splitB_zero]
theorem host_none (l : List UInt8) (hn : (46 : UInt8) ∉ l) : host l = 0 := by
  have h1 : (46 : UInt8) ∉ hostT l := fun h => hn (by
    unfold hostT Lib.trimRightS at h
    rw [List.mem_reverse] at h
    have h2 := (List.dropWhile_sublist _).mem h
    rw [List.mem_reverse] at h2
    exact List.mem_of_mem_take h2)
  unfold host hostBad
  rw [pts_none _ h1, decide_eq_true (by simp), Bool.true_or, Bool.true_or, if_pos rfl]
theorem mailbox_none (l : List UInt8) (hn : (46 : UInt8) ∉ l) : mailbox l = 0 := by
  unfold mailbox
  rw [host_none (l.drop (wl [46, 45, 95, 43] l + 1)) (fun h => hn (List.mem_of_mem_drop h))]
  split
  · rfl
  · split
    · rfl
    · rw [if_pos rfl]
theorem scheme_none (p l : List UInt8) (hn : (46 : UInt8) ∉ l) : scheme p l = none := by
  rw [scheme, if_neg (fun h => by have := h.2; rw [host_none _ (fun h => hn (List.mem_of_mem_drop h))] at this; omega)]
theorem one_none (l : List UInt8) (hn : (46 : UInt8) ∉ l) : one l = ([], 0) := by
  rw [one, if_neg (fun h => by have := h.2; rw [host_none l hn] at this; omega), oneS, scheme_none _ _ hn, scheme_none _ _ hn]
  show oneM l = _
  rw [oneM, if_pos (mailbox_none l hn)]
theorem fd_none : ∀ (f : Nat) (ok : Bool) (i : Nat) (l : List UInt8), (46 : UInt8) ∉ l → fd f ok i l = []
  | 0, _, _, _, _ => rfl
  | _ + 1, _, _, [], _ => rfl
  | f + 1, ok, i, x :: t, hn => by
    rw [fd, if_pos (.inr (by rw [one_none _ hn])), fd_none f _ _ t (fun h => hn (List.mem_cons_of_mem _ h))]
theorem adr_none (l : List UInt8) (hn : (46 : UInt8) ∉ l) : adr l = [] := fd_none _ _ _ _ hn

theorem tw_cut {p : UInt8 → Bool} {z : UInt8} (hz : p z = false) (y : List UInt8) : ∀ x : List UInt8, (x ++ z :: y).takeWhile p = x.takeWhile p
  | [] => by rw [List.nil_append, List.takeWhile_cons, if_neg (by rw [hz]; decide)]; rfl
  | a :: t => by
    rw [List.cons_append, List.takeWhile_cons, List.takeWhile_cons, tw_cut hz y t]
theorem wl_cut (m : List UInt8) (x y : List UInt8) (hm : m.contains 32 = false) : wl m (x ++ 32 :: y) = wl m x := by
  unfold wl
  rw [tw_cut (by rw [hm]; decide)]
theorem hostT_cut (x y : List UInt8) : hostT (x ++ 32 :: y) = hostT x := by
  unfold hostT
  rw [wl_cut _ x y (by decide), List.take_append_of_le_length (wl_le _ x)]
theorem host_cut (x y : List UInt8) : host (x ++ 32 :: y) = host x := by
  unfold host
  rw [hostT_cut]
theorem drop_cut (x y : List UInt8) (k : Nat) (h : k ≤ x.length) : (x ++ 32 :: y).drop k = x.drop k ++ 32 :: y := List.drop_append_of_le_length h
theorem stop_cut (x y : List UInt8) : stop (x ++ 32 :: y) = stop x := by
  unfold stop
  rw [tw_cut (by decide)]
theorem tailGo_cut (x y : List UInt8) (at' : Nat) : ∀ f n, n ≤ x.length → tailGo (x ++ 32 :: y) at' f n = tailGo x at' f n
  | 0, _, _ => rfl
  | f + 1, n, h => by
    rw [tailGo, tailGo, List.take_append_of_le_length h, tailGo_cut x y at' f _ (by omega)]
theorem tail_cut (x y : List UInt8) (at' : Nat) (h : at' ≤ x.length) : tail (x ++ 32 :: y) at' = tail x at' := by
  have := stop_le (x.drop at')
  rw [List.length_drop] at this
  unfold tail
  rw [drop_cut x y at' h, stop_cut]
  exact tailGo_cut x y at' _ _ (by omega)
theorem pre_cut (y : List UInt8) : ∀ (p x : List UInt8), (32 : UInt8) ∉ p → p.isPrefixOf (x ++ 32 :: y) = p.isPrefixOf x
  | [], x, _ => by simp
  | c :: p, [], h => by
    rw [List.nil_append]
    have : c ≠ 32 := fun e => h (by rw [e]; exact List.mem_cons_self ..)
    simp [List.isPrefixOf, this]
  | c :: p, a :: x, h => by
    rw [List.cons_append, List.isPrefixOf, List.isPrefixOf, pre_cut y p x (fun e => h (List.mem_cons_of_mem _ e))]
theorem scheme_cut (p x y : List UInt8) (hp : (32 : UInt8) ∉ p) : scheme p (x ++ 32 :: y) = scheme p x := by
  by_cases h : p.isPrefixOf x = true
  · have hl := isP_len h
    have hh := host_le (x.drop p.length)
    rw [List.length_drop] at hh
    have hb := tail_len x (p.length + host (x.drop p.length)) (by omega)
    unfold scheme
    rw [pre_cut y p x hp, drop_cut x y _ hl, host_cut, tail_cut x y _ (by omega), List.take_append_of_le_length hb]
  · unfold scheme
    rw [pre_cut y p x hp, if_neg (fun e => h e.1), if_neg (fun e => h e.1)]
theorem mailbox_cut (x y : List UInt8) : mailbox (x ++ 32 :: y) = mailbox x := by
  have hk := wl_le [46, 45, 95, 43] x
  unfold mailbox
  rw [wl_cut _ x y (by decide), drop_cut x y _ hk]
  by_cases h0 : wl [46, 45, 95, 43] x = 0
  · rw [if_pos h0, if_pos h0]
  · rw [if_neg h0, if_neg h0]
    by_cases h1 : wl [46, 45, 95, 43] x = x.length
    · rw [h1, List.drop_length, List.nil_append, if_pos (by simp), if_pos (by simp)]
    · have hlt : wl [46, 45, 95, 43] x < x.length := by omega
      have hd : x.drop (wl [46, 45, 95, 43] x) = x[wl [46, 45, 95, 43] x] :: x.drop (wl [46, 45, 95, 43] x + 1) := List.drop_eq_getElem_cons hlt
      have hh := host_le (x.drop (wl [46, 45, 95, 43] x + 1))
      rw [List.length_drop] at hh
      rw [hd, List.cons_append, List.head?_cons, List.head?_cons, drop_cut x y _ (by omega), host_cut]
      by_cases h2 : some x[wl [46, 45, 95, 43] x] ≠ some 64
      · rw [if_pos h2, if_pos h2]
      · rw [if_neg h2, if_neg h2, List.getD_eq_getElem?_getD, List.getD_eq_getElem?_getD, List.getElem?_append_left (by omega)]
theorem one_cut (x y : List UInt8) : one (x ++ 32 :: y) = one x := by
  have hh := host_le x
  have hm := mailbox_le x
  have hb := tail_len x (host x) hh
  have hM : oneM (x ++ 32 :: y) = oneM x := by
    unfold oneM
    rw [mailbox_cut, List.take_append_of_le_length hm]
  unfold one oneS
  rw [pre_cut y www x (by decide), host_cut, tail_cut x y _ hh, List.take_append_of_le_length hb, scheme_cut _ x y (by decide), scheme_cut _ x y (by decide), hM]
theorem one_blank (y : List UInt8) : one (32 :: y) = ([], 0) := by
  have := one_cut [] y
  rw [List.nil_append] at this
  rw [this]
  exact one_none [] (by simp)
/-- Moved by so many bytes. -/
def mv (n : Nat) (x : Nat × Nat × List UInt8) : Nat × Nat × List UInt8 := (x.1 + n, x.2.1 + n, x.2.2)
theorem fd_more : ∀ (f g : Nat) (ok : Bool) (i : Nat) (l : List UInt8), l.length ≤ f → l.length ≤ g → fd f ok i l = fd g ok i l
  | 0, g, ok, i, l, hf, _ => by
    have : l = [] := List.length_eq_zero_iff.1 (by omega)
    subst this
    cases g <;> rfl
  | f + 1, 0, ok, i, l, _, hg => by
    have : l = [] := List.length_eq_zero_iff.1 (by omega)
    subst this
    rfl
  | f + 1, g + 1, ok, i, [], _, _ => rfl
  | f + 1, g + 1, ok, i, x :: t, hf, hg => by
    rw [List.length_cons] at hf hg
    have hd : ((x :: t).drop (one (x :: t)).2).length ≤ t.length + 1 := by rw [List.length_drop, List.length_cons]; omega
    rw [fd, fd]
    by_cases hc : ok = false ∨ (one (x :: t)).2 = 0
    · rw [if_pos hc, if_pos hc]
      exact fd_more f g _ _ t (by omega) (by omega)
    · have h0 : (one (x :: t)).2 ≠ 0 := fun e => hc (.inr e)
      rw [if_neg hc, if_neg hc]
      congr 1
      exact fd_more f g _ _ _ (by rw [List.length_drop, List.length_cons]; omega) (by rw [List.length_drop, List.length_cons]; omega)
theorem fd_mv (n : Nat) : ∀ (f : Nat) (ok : Bool) (i : Nat) (l : List UInt8), fd f ok (i + n) l = (fd f ok i l).map (mv n)
  | 0, _, _, _ => rfl
  | _ + 1, _, _, [] => rfl
  | f + 1, ok, i, x :: t => by
    rw [fd, fd]
    split
    · rw [show i + n + 1 = i + 1 + n by omega, fd_mv n f]
    · rw [show i + n + (one (x :: t)).2 = i + (one (x :: t)).2 + n by omega, fd_mv n f]
      rfl
theorem fd_cut (b : List UInt8) : ∀ (f : Nat) (ok : Bool) (i : Nat) (x : List UInt8), x.length ≤ f → fd (f + 1 + b.length) ok i (x ++ 32 :: b) = fd f ok i x ++ (adr b).map (mv (i + x.length + 1))
  | f, ok, i, [], _ => by
    rw [List.nil_append, show f + 1 + b.length = (f + b.length) + 1 by omega, fd, if_pos (.inr (by rw [one_blank])), show fd f ok i [] = [] by cases f <;> rfl, List.nil_append]
    show fd _ true _ b = _
    rw [show i + 1 = 0 + (i + 0 + 1) by omega, fd_mv, fd_more (f + b.length) b.length true 0 b (by omega) (Nat.le_refl _)]
    rfl
  | 0, ok, i, a :: x, h => by rw [List.length_cons] at h; omega
  | f + 1, ok, i, a :: x, h => by
    rw [List.length_cons] at h
    have ho : one (a :: (x ++ 32 :: b)) = one (a :: x) := one_cut (a :: x) b
    have hle := one_le (a :: x)
    rw [List.length_cons] at hle
    rw [List.cons_append, show f + 1 + 1 + b.length = (f + 1 + b.length) + 1 by omega, fd, fd, ho]
    by_cases hc : ok = false ∨ (one (a :: x)).2 = 0
    · rw [if_pos hc, if_pos hc, fd_cut b f _ _ x (by omega), List.length_cons, show i + 1 + x.length + 1 = i + (x.length + 1) + 1 by omega]
    · have h0 : (one (a :: x)).2 ≠ 0 := fun e => hc (.inr e)
      have hd : (a :: (x ++ 32 :: b)).drop (one (a :: x)).2 = (a :: x).drop (one (a :: x)).2 ++ 32 :: b := drop_cut (a :: x) b _ (by rw [List.length_cons]; exact hle)
      have hg : (a :: (x ++ 32 :: b)).getD ((one (a :: x)).2 - 1) 0 = (a :: x).getD ((one (a :: x)).2 - 1) 0 := by
        rw [List.getD_eq_getElem?_getD, List.getD_eq_getElem?_getD]
        congr 1
        exact List.getElem?_append_left (l₁ := a :: x) (by rw [List.length_cons]; omega)
      rw [if_neg hc, if_neg hc, hd, hg, fd_cut b f _ _ _ (by rw [List.length_drop, List.length_cons]; omega), List.cons_append, List.length_drop, List.length_cons, show i + (one (a :: x)).2 + (x.length + 1 - (one (a :: x)).2) + 1 = i + (x.length + 1) + 1 by omega]
theorem adr_cut (a b : List UInt8) : adr (a ++ 32 :: b) = adr a ++ (adr b).map (mv (a.length + 1)) := by
  have h := fd_cut b a.length true 0 a (Nat.le_refl _)
  unfold adr at h ⊢
  rw [List.length_append, List.length_cons, show a.length + (b.length + 1) = a.length + 1 + b.length by omega, h, Nat.zero_add]
end Go.Proofs.YtddmddlaamcpiaaDoor.Pl
