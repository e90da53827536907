/-
  Facts on addresses: where they lie and what they are.
-/
import Derived.Test.YtddmddlaamcpiaaDoorPAuto5
namespace Go.Proofs.YtddmddlaamcpiaaDoor.Pl
open Go.RowKit Go.Proofs.YtddmddlaamcpiaaDoorW.PrintWords Go.Proofs.YtddmddlaamcpiaaDoorW.PrintMore

theorem tw_all (p : UInt8 → Bool) : ∀ (l : List UInt8) (n : Nat), n ≤ (l.takeWhile p).length → ∀ x ∈ l.take n, p x = true
  | [], n, _ => by simp
  | a :: t, 0, _ => by simp
  | a :: t, n + 1, h => by
    rw [List.takeWhile_cons] at h
    by_cases ha : p a = true
    · rw [if_pos ha, List.length_cons] at h
      intro x hx
      rw [List.take_succ_cons] at hx
      rcases List.mem_cons.1 hx with rfl | hx
      · exact ha
      · exact tw_all p t n (by omega) x hx
    · rw [if_neg ha, List.length_nil] at h
      omega
theorem mem_nb {m : List UInt8} (hm : ∀ x ∈ m, nb x = true) {x : UInt8} (h : (wd x || m.contains x) = true) : nb x = true := by
  have hw : ∀ y : Fin 256, wd (UInt8.ofNat y.val) = true → nb (UInt8.ofNat y.val) = true := by decide +kernel
  rw [Bool.or_eq_true] at h
  rcases h with h | h
  · have h0 := hw ⟨x.toNat, x.toNat_lt⟩
    rw [show UInt8.ofNat x.toNat = x from UInt8.ofNat_toNat] at h0
    exact h0 h
  · rw [List.contains_iff_mem] at h
    exact hm x h
theorem wl_nb (m l : List UInt8) (hm : ∀ x ∈ m, nb x = true) (n : Nat) (h : n ≤ wl m l) : ∀ x ∈ l.take n, nb x = true := fun x hx => mem_nb hm (tw_all _ l n h x hx)
theorem host_wl (l : List UInt8) : host l ≤ wl [45, 95, 46] l := by
  have := hostT_le l
  unfold host
  split <;> omega
theorem host_nb (l : List UInt8) : ∀ x ∈ l.take (host l), nb x = true := wl_nb _ l (by decide) _ (host_wl l)
theorem tail_nb (l : List UInt8) (at' : Nat) (h : ∀ x ∈ l.take at', nb x = true) : ∀ x ∈ l.take (tail l at'), nb x = true := by
  obtain ⟨h1, h2⟩ := tail_le l at'
  intro x hx
  have e : tail l at' = at' + (tail l at' - at') := by omega
  rw [e, List.take_add, List.mem_append] at hx
  rcases hx with hx | hx
  · exact h x hx
  · exact tw_all nb (l.drop at') _ (by show _ ≤ stop _; omega) x hx
/-- What is found is whole. -/
structure Whole (l d : List UInt8) (n : Nat) : Prop where
  three : 3 ≤ n
  len : n ≤ l.length
  nbs : ∀ x ∈ l.take n, nb x = true
  dest : d = l.take n ∨ d = http ++ l.take n ∨ d = mailto ++ l.take n
theorem scheme_whole {p l : List UInt8} {r : List UInt8 × Nat} (hp : 2 ≤ p.length) (hpn : ∀ x ∈ p, nb x = true) (h : scheme p l = some r) : Whole l r.1 r.2 := by
  have hle := scheme_le h
  obtain ⟨h1, h2, h3⟩ := scheme_some h
  have hl := isP_len h1
  rw [h3] at hle ⊢
  dsimp only at hle ⊢
  have htl := (tail_le l (p.length + host (l.drop p.length))).1
  refine ⟨by omega, hle, tail_nb l _ ?_, .inl rfl⟩
  intro x hx
  rw [List.take_add, List.mem_append] at hx
  rcases hx with hx | hx
  · rw [List.isPrefixOf_iff_prefix] at h1
    rw [List.prefix_iff_eq_take] at h1
    rw [← h1] at hx
    exact hpn x hx
  · exact host_nb _ x hx
theorem mail_whole (l : List UInt8) (h : mailbox l ≠ 0) : 3 ≤ mailbox l ∧ ∀ x ∈ l.take (mailbox l), nb x = true := by
  have hw := wl_nb [46, 45, 95, 43] l (by decide) (wl [46, 45, 95, 43] l) (Nat.le_refl _)
  unfold mailbox at h ⊢
  generalize wl [46, 45, 95, 43] l = k at *
  by_cases h0 : k = 0
  · rw [if_pos h0] at h; exact absurd rfl h
  · rw [if_neg h0] at h ⊢
    by_cases h1 : (l.drop k).head? ≠ some 64
    · rw [if_pos h1] at h; exact absurd rfl h
    · rw [if_neg h1] at h ⊢
      have hn := host_nb (l.drop (k + 1))
      generalize host (l.drop (k + 1)) = m at *
      by_cases h2 : m = 0
      · rw [if_pos h2] at h; exact absurd rfl h
      · rw [if_neg h2] at h ⊢
        by_cases h3 : ([45, 95] : List UInt8).contains (l.getD (k + m) 0) = true
        · rw [if_pos h3] at h; exact absurd rfl h
        · rw [if_neg h3]
          refine ⟨by omega, fun x hx => ?_⟩
          rw [List.take_add, List.mem_append, List.take_add, List.mem_append] at hx
          rcases hx with (hx | hx) | hx
          · exact hw x hx
          · have h4 : (l.drop k).head? = some 64 := Classical.byContradiction h1
            cases hd : l.drop k with
            | nil => rw [hd] at h4; cases h4
            | cons y t =>
              rw [hd] at h4 hx
              have : y = 64 := Option.some.inj h4
              simp at hx
              subst hx
              subst this
              decide
          · exact hn x hx
theorem one_whole (l : List UInt8) (h : (one l).2 ≠ 0) : Whole l (one l).1 (one l).2 := by
  have hle := one_le l
  have hh := host_le l
  by_cases hc : www.isPrefixOf l = true ∧ 4 < host l
  · have e : one l = (http ++ l.take (tail l (host l)), tail l (host l)) := by rw [one, if_pos hc]
    rw [e] at hle ⊢
    dsimp only at hle ⊢
    have htl := (tail_le l (host l)).1
    exact ⟨by omega, hle, tail_nb l _ (host_nb l), .inr (.inl rfl)⟩
  · have e : one l = oneS l := by rw [one, if_neg hc]
    rw [e] at hle h ⊢
    unfold oneS at hle h ⊢
    cases h1 : scheme http l with
    | some r => exact scheme_whole (by decide) (by decide) h1
    | none =>
      rw [h1] at hle h
      cases h2 : scheme https l with
      | some r => exact scheme_whole (by decide) (by decide) h2
      | none =>
        rw [h2] at hle h
        change (oneM l).2 ≠ 0 at h
        change (oneM l).2 ≤ _ at hle
        show Whole l (oneM l).1 (oneM l).2
        by_cases h3 : mailbox l = 0
        · rw [oneM, if_pos h3] at h
          exact absurd rfl h
        · have e2 : oneM l = (mailto ++ l.take (mailbox l), mailbox l) := by rw [oneM, if_neg h3]
          rw [e2] at hle ⊢
          dsimp only at hle ⊢
          obtain ⟨k1, k2⟩ := mail_whole l h3
          exact ⟨k1, hle, k2, .inr (.inr rfl)⟩
/-- Addresses lie apart, rising, within the text. -/
def Apart (s : List UInt8) : Nat → List (Nat × Nat × List UInt8) → Prop
  | _, [] => True
  | at', x :: t => at' ≤ x.1 ∧ Whole (s.drop x.1) x.2.2 (x.2.1 - x.1) ∧ x.1 ≤ x.2.1 ∧ (x.1 = 0 ∨ ahd (s.getD (x.1 - 1) 0) = true) ∧ Apart s x.2.1 t
theorem fd_apart (s : List UInt8) : ∀ (f i at' : Nat) (ok : Bool), at' ≤ i → (ok = true → i = 0 ∨ ahd (s.getD (i - 1) 0) = true) → Apart s at' (fd f ok i (s.drop i))
  | 0, _, _, _, _, _ => trivial
  | f + 1, i, at', ok, hi, hok => by
    cases hd : s.drop i with
    | nil => exact trivial
    | cons x t =>
      have hil : i < s.length := by
        rcases Nat.lt_or_ge i s.length with h | h
        · exact h
        · rw [List.drop_eq_nil_of_le h] at hd; cases hd
      have hdr : s.drop i = s[i] :: s.drop (i + 1) := List.drop_eq_getElem_cons hil
      rw [hdr] at hd
      obtain ⟨rfl, rfl⟩ := List.cons.inj hd
      rw [fd]
      by_cases hc : ok = false ∨ (one (s[i] :: s.drop (i + 1))).2 = 0
      · rw [if_pos hc]
        refine fd_apart s f (i + 1) at' _ (by omega) (fun h => .inr ?_)
        rw [Nat.add_sub_cancel, List.getD_eq_getElem?_getD, List.getElem?_eq_getElem hil]
        exact h
      · rw [if_neg hc]
        have h0 : (one (s[i] :: s.drop (i + 1))).2 ≠ 0 := fun e => hc (.inr e)
        have hok1 : ok = true := by
          cases ok with
          | true => rfl
          | false => exact absurd (.inl rfl) hc
        have hw := one_whole _ h0
        have hn := hw.len
        rw [← hdr] at hw hn h0 ⊢
        rw [List.length_drop] at hn
        generalize one (s.drop i) = r at *
        refine ⟨hi, by rw [Nat.add_sub_cancel_left]; exact hw, Nat.le_add_right _ _, hok hok1, ?_⟩
        rw [List.drop_drop]
        refine fd_apart s f (i + r.2) (i + r.2) _ (Nat.le_refl _) (fun h => .inr ?_)
        rw [List.getD_eq_getElem?_getD, List.getElem?_drop] at h
        rw [List.getD_eq_getElem?_getD, show i + r.2 - 1 = i + (r.2 - 1) by omega]
        exact h
theorem fd_le : ∀ (f : Nat) (ok : Bool) (i : Nat) (l : List UInt8), (fd f ok i l).length ≤ f
  | 0, _, _, _ => Nat.le_refl _
  | _ + 1, _, _, [] => Nat.zero_le _
  | f + 1, ok, i, x :: t => by
    rw [fd]
    split
    · exact Nat.le_succ_of_le (fd_le f _ _ _)
    · rw [List.length_cons]
      exact Nat.succ_le_succ (fd_le f _ _ _)
theorem adr_apart (s : List UInt8) : Apart s 0 (adr s) := by
  have := fd_apart s s.length 0 0 true (Nat.le_refl _) (fun _ => .inl rfl)
  rwa [List.drop_zero] at this
end Go.Proofs.YtddmddlaamcpiaaDoor.Pl
