/-
  The reference's good tells the decoder's length. No condition.
-/
import Derived.Test.YtondbckghchmpaaDoorPGood
namespace Go.Proofs.YtondbckghchmpaaDoor.Pl
open Go.RowKit Go.Proofs.YtondbckghchmpaaDoorW.PrintWords Go.Proofs.YtondbckghchmpaaDoorW.PrintMore Go.Proofs.YtondbckghchmpaaDoor.PA

set_option maxHeartbeats 8000000 in
theorem good_eq (l : List UInt8) (h : l ≠ []) (k : Nat) : incipitref01_good.f (k + 7) (nms l) = some ((gN l.length (l.getD 0 0).toNat (l.getD 1 0).toNat (l.getD 2 0).toNat (l.getD 3 0).toNat : Nat) : Int) := by
  have hn : 0 < l.length := List.length_pos_iff.2 h
  have F0 : ∀ lo hi : Nat, incipitref01_between.f (nms l) 0 (lo : Int) (hi : Int) = some (decide (lo ≤ (l.getD 0 0).toNat ∧ (l.getD 0 0).toNat ≤ hi)) := fun lo hi => by
    rw [show (0 : Int) = ((0 : Nat) : Int) from rfl, btw_eq]
    congr 1
    exact decide_eq_decide.2 (by omega)
  have F1 : ∀ lo hi : Nat, incipitref01_between.f (nms l) 1 (lo : Int) (hi : Int) = some (decide (1 < l.length ∧ lo ≤ (l.getD 1 0).toNat ∧ (l.getD 1 0).toNat ≤ hi)) := fun lo hi => btw_eq l 1 lo hi
  have F2 : ∀ lo hi : Nat, incipitref01_between.f (nms l) 2 (lo : Int) (hi : Int) = some (decide (2 < l.length ∧ lo ≤ (l.getD 2 0).toNat ∧ (l.getD 2 0).toNat ≤ hi)) := fun lo hi => btw_eq l 2 lo hi
  have F3 : ∀ lo hi : Nat, incipitref01_between.f (nms l) 3 (lo : Int) (hi : Int) = some (decide (3 < l.length ∧ lo ≤ (l.getD 3 0).toNat ∧ (l.getD 3 0).toNat ≤ hi)) := fun lo hi => btw_eq l 3 lo hi
  have a1 : incipitref01_between.f (nms l) 0 0 127 = _ := F0 0 127
  have a2 : incipitref01_between.f (nms l) 0 194 223 = _ := F0 194 223
  have a3 : incipitref01_between.f (nms l) 1 128 191 = _ := F1 128 191
  have a4 : incipitref01_between.f (nms l) 2 128 191 = _ := F2 128 191
  have a5 : incipitref01_between.f (nms l) 0 224 224 = _ := F0 224 224
  have a6 : incipitref01_between.f (nms l) 1 160 191 = _ := F1 160 191
  have a7 : incipitref01_between.f (nms l) 0 237 237 = _ := F0 237 237
  have a8 : incipitref01_between.f (nms l) 1 128 159 = _ := F1 128 159
  have a9 : incipitref01_between.f (nms l) 0 225 236 = _ := F0 225 236
  have a10 : incipitref01_between.f (nms l) 0 238 239 = _ := F0 238 239
  have a11 : incipitref01_between.f (nms l) 3 128 191 = _ := F3 128 191
  have a12 : incipitref01_between.f (nms l) 0 240 240 = _ := F0 240 240
  have a13 : incipitref01_between.f (nms l) 1 144 191 = _ := F1 144 191
  have a14 : incipitref01_between.f (nms l) 0 241 243 = _ := F0 241 243
  have a15 : incipitref01_between.f (nms l) 0 244 244 = _ := F0 244 244
  have a16 : incipitref01_between.f (nms l) 1 128 143 = _ := F1 128 143
  clear F0 F1 F2 F3
  generalize hb0 : (l.getD 0 0).toNat = b0 at *
  generalize hb1 : (l.getD 1 0).toNat = b1 at *
  generalize hb2 : (l.getD 2 0).toNat = b2 at *
  generalize hb3 : (l.getD 3 0).toNat = b3 at *
  generalize hln : l.length = n at *
  generalize nms l = m at *
  have e5 : ∀ k x, incipitref01_good.j5 (k + 1) m x = some (if x = true ∨ (b0 = 244 ∧ 1 < n ∧ 128 ≤ b1 ∧ b1 ≤ 143) then 4 else 0) := by
    intro k x
    simp only [incipitref01_good.j5, a15, a16, Option.bind_some]
    cases x with
    | true => rw [if_pos (show true = true from rfl), if_pos (.inl rfl)]
    | false =>
      rw [if_neg (show ¬ (false = true) by decide)]
      by_cases h1 : 244 ≤ b0 ∧ b0 ≤ 244
      · rw [decide_eq_true h1, if_pos (show true = true from rfl)]
        by_cases h2 : 1 < n ∧ 128 ≤ b1 ∧ b1 ≤ 143
        · rw [decide_eq_true h2, if_pos (show true = true from rfl), if_pos (.inr ⟨by omega, h2⟩)]
        · rw [decide_eq_false h2, if_neg (show ¬ (false = true) by decide), if_neg (by rintro (e | e); cases e; exact h2 e.2)]
      · rw [decide_eq_false h1, if_neg (show ¬ (false = true) by decide), if_neg (by rintro (e | e); cases e; omega)]
  have e4 : ∀ k x, incipitref01_good.j4 (k + 2) m x = some (if x = true ∨ ((241 ≤ b0 ∧ b0 ≤ 243) ∧ 1 < n ∧ 128 ≤ b1 ∧ b1 ≤ 191) ∨ (b0 = 244 ∧ 1 < n ∧ 128 ≤ b1 ∧ b1 ≤ 143) then 4 else 0) := by
    intro k x
    simp only [incipitref01_good.j4, a14, a3, Option.bind_some]
    cases x with
    | true => rw [if_pos (show true = true from rfl), if_pos (.inl rfl)]
    | false =>
      rw [if_neg (show ¬ (false = true) by decide)]
      by_cases h1 : 241 ≤ b0 ∧ b0 ≤ 243
      · rw [decide_eq_true h1, if_pos (show true = true from rfl), e5 k]
        congr 1
        by_cases h2 : 1 < n ∧ 128 ≤ b1 ∧ b1 ≤ 191
        · rw [decide_eq_true h2, if_pos (.inl rfl), if_pos (.inr (.inl ⟨h1, h2⟩))]
        · rw [decide_eq_false h2, if_neg (by rintro (e | e); cases e; omega), if_neg (by rintro (e | e | e); cases e; exact h2 e.2; omega)]
      · rw [decide_eq_false h1, if_neg (show ¬ (false = true) by decide), e5 k]
        congr 1
        by_cases h3 : b0 = 244 ∧ 1 < n ∧ 128 ≤ b1 ∧ b1 ≤ 143
        · rw [if_pos (.inr h3), if_pos (.inr (.inr h3))]
        · rw [if_neg (by rintro (e | e); cases e; exact h3 e), if_neg (by rintro (e | e | e); cases e; exact h1 e.1; exact h3 e)]
  have e3 : ∀ k x, incipitref01_good.j3 (k + 3) m x = some (if x = true then 3 else if ¬ (3 < n ∧ 128 ≤ b3 ∧ b3 ≤ 191) then 0 else if (b0 = 240 ∧ 1 < n ∧ 144 ≤ b1 ∧ b1 ≤ 191) ∨ ((241 ≤ b0 ∧ b0 ≤ 243) ∧ 1 < n ∧ 128 ≤ b1 ∧ b1 ≤ 191) ∨ (b0 = 244 ∧ 1 < n ∧ 128 ≤ b1 ∧ b1 ≤ 143) then 4 else 0) := by
    intro k x
    simp only [incipitref01_good.j3, a11, a12, a13, Option.bind_some]
    cases x with
    | true => rw [if_pos (show true = true from rfl), if_pos (show true = true from rfl)]
    | false =>
      rw [if_neg (show ¬ (false = true) by decide), if_neg (show ¬ (false = true) by decide)]
      by_cases h1 : 3 < n ∧ 128 ≤ b3 ∧ b3 ≤ 191
      · rw [decide_eq_true h1, if_pos (show true = true from rfl), if_neg (show ¬ ¬ (3 < n ∧ 128 ≤ b3 ∧ b3 ≤ 191) from fun e => e h1)]
        by_cases h2 : 240 ≤ b0 ∧ b0 ≤ 240
        · rw [decide_eq_true h2, if_pos (show true = true from rfl), e4 k]
          congr 1
          by_cases h3 : 1 < n ∧ 144 ≤ b1 ∧ b1 ≤ 191
          · rw [decide_eq_true h3, if_pos (.inl rfl), if_pos (.inl ⟨by omega, h3⟩)]
          · rw [decide_eq_false h3, if_neg (by rintro (e | e | e); cases e; omega; omega), if_neg (by rintro (e | e | e); exact h3 e.2; omega; omega)]
        · rw [decide_eq_false h2, if_neg (show ¬ (false = true) by decide), e4 k]
          congr 1
          by_cases h3 : ((241 ≤ b0 ∧ b0 ≤ 243) ∧ 1 < n ∧ 128 ≤ b1 ∧ b1 ≤ 191) ∨ (b0 = 244 ∧ 1 < n ∧ 128 ≤ b1 ∧ b1 ≤ 143)
          · rw [if_pos (.inr h3), if_pos (.inr h3)]
          · rw [if_neg (by rintro (e | e); cases e; exact h3 e), if_neg (by rintro (e | e); omega; exact h3 e)]
      · rw [decide_eq_false h1, if_neg (show ¬ (false = true) by decide), if_pos h1]
  have e2 : ∀ k x, incipitref01_good.j2 (k + 4) m x = some (if x = true ∨ ((225 ≤ b0 ∧ b0 ≤ 236 ∨ 238 ≤ b0 ∧ b0 ≤ 239) ∧ 1 < n ∧ 128 ≤ b1 ∧ b1 ≤ 191) then 3 else if ¬ (3 < n ∧ 128 ≤ b3 ∧ b3 ≤ 191) then 0 else if (b0 = 240 ∧ 1 < n ∧ 144 ≤ b1 ∧ b1 ≤ 191) ∨ ((241 ≤ b0 ∧ b0 ≤ 243) ∧ 1 < n ∧ 128 ≤ b1 ∧ b1 ≤ 191) ∨ (b0 = 244 ∧ 1 < n ∧ 128 ≤ b1 ∧ b1 ≤ 143) then 4 else 0) := by
    intro k x
    simp only [incipitref01_good.j2, a9, a10, a3, Option.bind_some]
    cases x with
    | true => rw [if_pos (show true = true from rfl), if_pos (.inl rfl)]
    | false =>
      rw [if_neg (show ¬ (false = true) by decide)]
      by_cases h1 : 225 ≤ b0 ∧ b0 ≤ 236
      · rw [decide_eq_true h1, if_pos (show true = true from rfl), e3 k]
        congr 1
        by_cases h2 : 1 < n ∧ 128 ≤ b1 ∧ b1 ≤ 191
        · rw [decide_eq_true h2, if_pos (show true = true from rfl), if_pos (.inr ⟨.inl h1, h2⟩)]
        · rw [decide_eq_false h2, if_neg (show ¬ (false = true) by decide), if_neg (show ¬ (false = true ∨ _) by rintro (e | e); cases e; exact h2 e.2)]
      · rw [decide_eq_false h1, if_neg (show ¬ (false = true) by decide)]
        by_cases h2 : 238 ≤ b0 ∧ b0 ≤ 239
        · rw [decide_eq_true h2, if_pos (show true = true from rfl), e3 k]
          congr 1
          by_cases h3 : 1 < n ∧ 128 ≤ b1 ∧ b1 ≤ 191
          · rw [decide_eq_true h3, if_pos (show true = true from rfl), if_pos (.inr ⟨.inr h2, h3⟩)]
          · rw [decide_eq_false h3, if_neg (show ¬ (false = true) by decide), if_neg (show ¬ (false = true ∨ _) by rintro (e | e); cases e; exact h3 e.2)]
        · rw [decide_eq_false h2, if_neg (show ¬ (false = true) by decide), e3 k, if_neg (show ¬ (false = true) by decide), if_neg (show ¬ (false = true ∨ _) by rintro (e | e); cases e; exact e.1.elim h1 h2)]
  have e1 : ∀ k x, incipitref01_good.j1 (k + 5) m x = some (if x = true ∨ (b0 = 237 ∧ 1 < n ∧ 128 ≤ b1 ∧ b1 ≤ 159) ∨ ((225 ≤ b0 ∧ b0 ≤ 236 ∨ 238 ≤ b0 ∧ b0 ≤ 239) ∧ 1 < n ∧ 128 ≤ b1 ∧ b1 ≤ 191) then 3 else if ¬ (3 < n ∧ 128 ≤ b3 ∧ b3 ≤ 191) then 0 else if (b0 = 240 ∧ 1 < n ∧ 144 ≤ b1 ∧ b1 ≤ 191) ∨ ((241 ≤ b0 ∧ b0 ≤ 243) ∧ 1 < n ∧ 128 ≤ b1 ∧ b1 ≤ 191) ∨ (b0 = 244 ∧ 1 < n ∧ 128 ≤ b1 ∧ b1 ≤ 143) then 4 else 0) := by
    intro k x
    simp only [incipitref01_good.j1, a7, a8, Option.bind_some]
    cases x with
    | true => rw [if_pos (show true = true from rfl), e2 k, if_pos (.inl rfl), if_pos (.inl rfl)]
    | false =>
      rw [if_neg (show ¬ (false = true) by decide)]
      by_cases h1 : 237 ≤ b0 ∧ b0 ≤ 237
      · rw [decide_eq_true h1, if_pos (show true = true from rfl), e2 k]
        congr 1
        by_cases h2 : 1 < n ∧ 128 ≤ b1 ∧ b1 ≤ 159
        · rw [decide_eq_true h2, if_pos (.inl rfl), if_pos (.inr (.inl ⟨by omega, h2⟩))]
        · rw [decide_eq_false h2, if_neg (show ¬ (false = true ∨ _) by rintro (e | e); cases e; omega), if_neg (show ¬ (false = true ∨ _ ∨ _) by rintro (e | e | e); cases e; exact h2 e.2; omega)]
      · rw [decide_eq_false h1, if_neg (show ¬ (false = true) by decide), e2 k]
        congr 1
        by_cases h3 : (225 ≤ b0 ∧ b0 ≤ 236 ∨ 238 ≤ b0 ∧ b0 ≤ 239) ∧ 1 < n ∧ 128 ≤ b1 ∧ b1 ≤ 191
        · rw [if_pos (.inr h3), if_pos (.inr (.inr h3))]
        · rw [if_neg (show ¬ (false = true ∨ _) by rintro (e | e); cases e; exact h3 e), if_neg (show ¬ (false = true ∨ _ ∨ _) by rintro (e | e | e); cases e; omega; exact h3 e)]
  have e0 : ∀ k x, incipitref01_good.j0 (k + 6) m x = some (if x = true then 2 else if ¬ (2 < n ∧ 128 ≤ b2 ∧ b2 ≤ 191) then 0 else if (b0 = 224 ∧ 1 < n ∧ 160 ≤ b1 ∧ b1 ≤ 191) ∨ (b0 = 237 ∧ 1 < n ∧ 128 ≤ b1 ∧ b1 ≤ 159) ∨ ((225 ≤ b0 ∧ b0 ≤ 236 ∨ 238 ≤ b0 ∧ b0 ≤ 239) ∧ 1 < n ∧ 128 ≤ b1 ∧ b1 ≤ 191) then 3 else if ¬ (3 < n ∧ 128 ≤ b3 ∧ b3 ≤ 191) then 0 else if (b0 = 240 ∧ 1 < n ∧ 144 ≤ b1 ∧ b1 ≤ 191) ∨ ((241 ≤ b0 ∧ b0 ≤ 243) ∧ 1 < n ∧ 128 ≤ b1 ∧ b1 ≤ 191) ∨ (b0 = 244 ∧ 1 < n ∧ 128 ≤ b1 ∧ b1 ≤ 143) then 4 else 0) := by
    intro k x
    simp only [incipitref01_good.j0, a4, a5, a6, Option.bind_some]
    cases x with
    | true => rw [if_pos (show true = true from rfl), if_pos (show true = true from rfl)]
    | false =>
      rw [if_neg (show ¬ (false = true) by decide), if_neg (show ¬ (false = true) by decide)]
      by_cases h1 : 2 < n ∧ 128 ≤ b2 ∧ b2 ≤ 191
      · rw [decide_eq_true h1, if_pos (show true = true from rfl), if_neg (show ¬ ¬ (2 < n ∧ 128 ≤ b2 ∧ b2 ≤ 191) from fun e => e h1)]
        by_cases h2 : 224 ≤ b0 ∧ b0 ≤ 224
        · rw [decide_eq_true h2, if_pos (show true = true from rfl), e1 k]
          congr 1
          by_cases h3 : 1 < n ∧ 160 ≤ b1 ∧ b1 ≤ 191
          · rw [decide_eq_true h3, if_pos (.inl rfl), if_pos (.inl ⟨by omega, h3⟩)]
          · rw [decide_eq_false h3, if_neg (show ¬ (false = true ∨ (b0 = 237 ∧ 1 < n ∧ 128 ≤ b1 ∧ b1 ≤ 159) ∨ ((225 ≤ b0 ∧ b0 ≤ 236 ∨ 238 ≤ b0 ∧ b0 ≤ 239) ∧ 1 < n ∧ 128 ≤ b1 ∧ b1 ≤ 191)) by rintro (e | e | e); cases e; omega; omega), if_neg (show ¬ ((b0 = 224 ∧ 1 < n ∧ 160 ≤ b1 ∧ b1 ≤ 191) ∨ (b0 = 237 ∧ 1 < n ∧ 128 ≤ b1 ∧ b1 ≤ 159) ∨ ((225 ≤ b0 ∧ b0 ≤ 236 ∨ 238 ≤ b0 ∧ b0 ≤ 239) ∧ 1 < n ∧ 128 ≤ b1 ∧ b1 ≤ 191)) by rintro (e | e | e); exact h3 e.2; omega; omega)]
        · rw [decide_eq_false h2, if_neg (show ¬ (false = true) by decide), e1 k]
          congr 1
          by_cases h3 : (b0 = 237 ∧ 1 < n ∧ 128 ≤ b1 ∧ b1 ≤ 159) ∨ ((225 ≤ b0 ∧ b0 ≤ 236 ∨ 238 ≤ b0 ∧ b0 ≤ 239) ∧ 1 < n ∧ 128 ≤ b1 ∧ b1 ≤ 191)
          · rw [if_pos (.inr h3), if_pos (.inr h3)]
          · rw [if_neg (show ¬ (false = true ∨ (b0 = 237 ∧ 1 < n ∧ 128 ≤ b1 ∧ b1 ≤ 159) ∨ ((225 ≤ b0 ∧ b0 ≤ 236 ∨ 238 ≤ b0 ∧ b0 ≤ 239) ∧ 1 < n ∧ 128 ≤ b1 ∧ b1 ≤ 191)) by rintro (e | e); cases e; exact h3 e), if_neg (show ¬ ((b0 = 224 ∧ 1 < n ∧ 160 ≤ b1 ∧ b1 ≤ 191) ∨ (b0 = 237 ∧ 1 < n ∧ 128 ≤ b1 ∧ b1 ≤ 159) ∨ ((225 ≤ b0 ∧ b0 ≤ 236 ∨ 238 ≤ b0 ∧ b0 ≤ 239) ∧ 1 < n ∧ 128 ≤ b1 ∧ b1 ≤ 191)) by rintro (e | e); omega; exact h3 e)]
      · rw [decide_eq_false h1, if_neg (show ¬ (false = true) by decide), if_pos h1]
  simp only [incipitref01_good.f, a1, a2, a3, Option.bind_some]
  unfold gN
  by_cases c0 : b0 ≤ 127
  · rw [decide_eq_true (show 0 ≤ b0 ∧ b0 ≤ 127 by omega), if_pos (show true = true from rfl), if_pos c0]
    rfl
  · rw [decide_eq_false (show ¬ (0 ≤ b0 ∧ b0 ≤ 127) by omega), if_neg (show ¬ (false = true) by decide), if_neg c0]
    have fin : ∀ x : Bool, (x = true ↔ (194 ≤ b0 ∧ b0 ≤ 223) ∧ (1 < n ∧ 128 ≤ b1 ∧ b1 ≤ 191)) → incipitref01_good.j0 (k + 7) m x = some ((if (194 ≤ b0 ∧ b0 ≤ 223) ∧ (1 < n ∧ 128 ≤ b1 ∧ b1 ≤ 191) then 2 else if ¬ (2 < n ∧ 128 ≤ b2 ∧ b2 ≤ 191) then 0
      else if (b0 = 224 ∧ 1 < n ∧ 160 ≤ b1 ∧ b1 ≤ 191) ∨ (b0 = 237 ∧ 1 < n ∧ 128 ≤ b1 ∧ b1 ≤ 159) ∨ ((225 ≤ b0 ∧ b0 ≤ 236 ∨ 238 ≤ b0 ∧ b0 ≤ 239) ∧ 1 < n ∧ 128 ≤ b1 ∧ b1 ≤ 191) then 3
      else if ¬ (3 < n ∧ 128 ≤ b3 ∧ b3 ≤ 191) then 0
      else if (b0 = 240 ∧ 144 ≤ b1 ∧ b1 ≤ 191) ∨ ((241 ≤ b0 ∧ b0 ≤ 243) ∧ 128 ≤ b1 ∧ b1 ≤ 191) ∨ (b0 = 244 ∧ 128 ≤ b1 ∧ b1 ≤ 143) then 4 else 0 : Nat) : Int) := by
      intro x hx
      rw [e0 (k + 1)]
      congr 1
      by_cases g1 : (194 ≤ b0 ∧ b0 ≤ 223) ∧ (1 < n ∧ 128 ≤ b1 ∧ b1 ≤ 191)
      · rw [if_pos (hx.2 g1), if_pos g1]; rfl
      · rw [if_neg (fun e => g1 (hx.1 e)), if_neg g1]
        by_cases g2 : ¬ (2 < n ∧ 128 ≤ b2 ∧ b2 ≤ 191)
        · rw [if_pos g2, if_pos g2]; rfl
        · rw [if_neg g2, if_neg g2]
          by_cases g3 : (b0 = 224 ∧ 1 < n ∧ 160 ≤ b1 ∧ b1 ≤ 191) ∨ (b0 = 237 ∧ 1 < n ∧ 128 ≤ b1 ∧ b1 ≤ 159) ∨ ((225 ≤ b0 ∧ b0 ≤ 236 ∨ 238 ≤ b0 ∧ b0 ≤ 239) ∧ 1 < n ∧ 128 ≤ b1 ∧ b1 ≤ 191)
          · rw [if_pos g3, if_pos g3]; rfl
          · rw [if_neg g3, if_neg g3]
            by_cases g4 : ¬ (3 < n ∧ 128 ≤ b3 ∧ b3 ≤ 191)
            · rw [if_pos g4, if_pos g4]; rfl
            · rw [if_neg g4, if_neg g4]
              by_cases g5 : (b0 = 240 ∧ 144 ≤ b1 ∧ b1 ≤ 191) ∨ ((241 ≤ b0 ∧ b0 ≤ 243) ∧ 128 ≤ b1 ∧ b1 ≤ 191) ∨ (b0 = 244 ∧ 128 ≤ b1 ∧ b1 ≤ 143)
              · rw [if_pos g5, if_pos (by omega)]; rfl
              · rw [if_neg g5, if_neg (by omega)]; rfl
    by_cases h1 : 194 ≤ b0 ∧ b0 ≤ 223
    · rw [decide_eq_true h1, if_pos (show true = true from rfl)]
      exact fin _ (by rw [decide_eq_true_iff]; exact ⟨fun e => ⟨h1, e⟩, fun e => e.2⟩)
    · rw [decide_eq_false h1, if_neg (show ¬ (false = true) by decide)]
      exact fin _ ⟨fun e => (by cases e), fun e => absurd e.1 h1⟩
end Go.Proofs.YtondbckghchmpaaDoor.Pl
