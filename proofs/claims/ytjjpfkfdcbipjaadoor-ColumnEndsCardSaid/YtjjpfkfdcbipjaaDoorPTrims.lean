/-
  What the layer's printed trimming computes, in plain words. Condition: a text of at most 2^30 bytes.
-/
import Derived.Test.YtjjpfkfdcbipjaaDoorPCol2
import Derived.Test.YtjjpfkfdcbipjaaDoorPAx3
namespace Go.Proofs.YtjjpfkfdcbipjaaDoor.Pl
open Go.RowKit Go.Proofs.YtjjpfkfdcbipjaaDoorW.PrintWords Go.Proofs.YtjjpfkfdcbipjaaDoorW.PrintMore

theorem triml_f (l : List UInt8) (hl : l.length ≤ 1073741824) : PA.column_TrimLeft.f (B l) = some (B (tl l)) := by
  unfold PA.column_TrimLeft.f PA.strings_TrimLeft.f
  rw [if_pos ⟨by rw [B_size]; omega, by decide, by decide⟩, Option.bind_some, B_data]
  rfl
theorem trimr_f (l : List UInt8) (hl : l.length ≤ 1073741824) : PA.column_TrimRight.f (B l) = some (B (tr l)) := by
  unfold PA.column_TrimRight.f PA.strings_TrimRight.f
  rw [if_pos ⟨by rw [B_size]; omega, by decide, by decide⟩, Option.bind_some, B_data]
  rfl
theorem trim_f (l : List UInt8) (hl : l.length ≤ 1073741824) : PA.column_Trim.f (B l) = some (B (tl (tr l))) := by
  unfold PA.column_Trim.f PA.strings_Trim.f
  rw [if_pos ⟨by rw [B_size]; omega, by decide, by decide⟩, Option.bind_some, B_data]
  rfl
theorem ws_iff (x : UInt8) : ws.contains x = true ↔ ((x.toNat : Int) = 32 ∨ (9 ≤ (x.toNat : Int) ∧ (x.toNat : Int) ≤ 13)) := by
  have h : ∀ y : Fin 256, ws.contains (UInt8.ofNat y.val) = decide (y.val = 32 ∨ (9 ≤ y.val ∧ y.val ≤ 13)) := by decide +kernel
  have h0 := h ⟨x.toNat, x.toNat_lt⟩
  rw [show UInt8.ofNat x.toNat = x from UInt8.ofNat_toNat] at h0
  rw [h0, decide_eq_true_eq]
  show (x.toNat = 32 ∨ (9 ≤ x.toNat ∧ x.toNat ≤ 13)) ↔ _
  omega
theorem white_f (x : UInt8) : PA.incipitref02_white.f (x.toNat : Int) = some (ws.contains x) := by
  unfold PA.incipitref02_white.f
  have h := ws_iff x
  by_cases h1 : (x.toNat : Int) = 32
  · rw [if_pos h1, h.2 (.inl h1)]
  · rw [if_neg h1]
    by_cases h2 : (x.toNat : Int) ≥ 9
    · rw [if_pos h2]
      by_cases h3 : (x.toNat : Int) ≤ 13
      · rw [decide_eq_true h3, h.2 (.inr ⟨h2, h3⟩)]
      · rw [decide_eq_false h3]
        have : ¬ ws.contains x = true := fun e => by rcases h.1 e with e | e <;> omega
        rw [Bool.not_eq_true] at this
        rw [this]
    · rw [if_neg h2]
      have : ¬ ws.contains x = true := fun e => by rcases h.1 e with e | e <;> omega
      rw [Bool.not_eq_true] at this
      rw [this]
theorem reft_l : ∀ (l : List UInt8) (j : Nat), l.length < 1073741824 → PA.incipitref02_TrimLeft.l0 (j + l.length + 1) (B l) = some (B (tl l))
  | [], j, _ => by
    simp only [PA.incipitref02_TrimLeft.l0]
    rw [if_neg (by rw [B_size]; simp)]
    rfl
  | x :: t, j, h => by
    have ih := reft_l t j (by rw [List.length_cons] at h; omega)
    have e0 : bt (B (x :: t)) 0 = (x.toNat : Int) := B_bt (x :: t) 0 (by simp)
    have e1 : (B (x :: t)).extract 1 (B (x :: t)).size = B t := B_from (x :: t) 1 _ (B_size _)
    have hz : ((B (x :: t)).size : Int) > 0 := by rw [B_size, List.length_cons]; omega
    show PA.incipitref02_TrimLeft.l0 (j + t.length + 1 + 1) (B (x :: t)) = _
    rw [PA.incipitref02_TrimLeft.l0, if_pos hz, if_pos hz, e0, white_f, Option.bind_some, e1]
    unfold tl
    rw [List.dropWhile_cons]
    by_cases hw : ws.contains x = true
    · rw [if_pos hw, if_pos hw, if_pos (by omega)]
      exact ih
    · rw [if_neg hw, if_neg hw]
theorem reft_r : ∀ (n : Nat) (l : List UInt8) (j : Nat), l.length = n → n < 1073741824 → PA.incipitref02_TrimRight.l0 (j + n + 1) (B l) = some (B (tr l))
  | 0, l, j, h, _ => by
    obtain rfl := List.length_eq_zero_iff.1 h
    simp only [PA.incipitref02_TrimRight.l0]
    rw [if_neg (by rw [B_size]; simp)]
    rfl
  | n + 1, l, j, h, hn => by
    have hl : l.take n ++ [l[n]'(by omega)] = l := by
      rw [List.take_append_getElem, List.take_of_length_le (by omega)]
    have ih := reft_r n (l.take n) j (by rw [List.length_take]; omega) (by omega)
    have hz : ((B l).size : Int) > 0 := by rw [B_size]; omega
    have e2 : wrap64 (((B l).size : Int) - 1) = (n : Int) := by rw [B_size, w64 (by omega) (by omega)]; omega
    have e0 : bt (B l) (n : Int) = ((l[n]'(by omega)).toNat : Int) := B_bt l n (by omega)
    have e1 : (B l).extract 0 n = B (l.take n) := B_to l n
    show PA.incipitref02_TrimRight.l0 (j + n + 1 + 1) (B l) = _
    rw [PA.incipitref02_TrimRight.l0, if_pos hz, e2, if_pos (by omega), if_pos (by rw [B_size]; omega), e0, white_f, Option.bind_some]
    by_cases hw : ws.contains (l[n]'(by omega)) = true
    · rw [if_pos hw, if_pos (by rw [B_size]; omega), Int.toNat_natCast, e1, ih]
      have := tr_suf [l[n]'(by omega)] (l.take n) (by rw [List.all_cons, hw]; rfl)
      rw [hl] at this
      rw [this]
    · rw [if_neg hw]
      have : tr l = l := by
        unfold tr
        conv => lhs; rw [← hl]
        rw [List.reverse_append, List.reverse_singleton, List.singleton_append, List.dropWhile_cons, if_neg hw, List.reverse_cons, List.reverse_reverse, hl]
      rw [this]
end Go.Proofs.YtjjpfkfdcbipjaaDoor.Pl
