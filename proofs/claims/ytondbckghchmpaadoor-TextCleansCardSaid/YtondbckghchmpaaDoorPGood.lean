/-
  The reference's good, Clean and the decoder: which bytes are a character. No condition.
-/
import Derived.Test.YtondbckghchmpaaDoorPRunes
import Derived.Test.YtondbckghchmpaaDoorPAx5
namespace Go.Proofs.YtondbckghchmpaaDoor.Pl
open Go.RowKit Go.Proofs.YtondbckghchmpaaDoorW.PrintWords Go.Proofs.YtondbckghchmpaaDoorW.PrintMore Go.Proofs.YtondbckghchmpaaDoor.PA

/-- Whether a text of n bytes begins with a character, and how many bytes it is: by the bytes' ranges. -/
def gN (n b0 b1 b2 b3 : Nat) : Nat :=
  if b0 ≤ 127 then 1 else if (194 ≤ b0 ∧ b0 ≤ 223) ∧ (1 < n ∧ 128 ≤ b1 ∧ b1 ≤ 191) then 2 else if ¬ (2 < n ∧ 128 ≤ b2 ∧ b2 ≤ 191) then 0
  else if (b0 = 224 ∧ 1 < n ∧ 160 ≤ b1 ∧ b1 ≤ 191) ∨ (b0 = 237 ∧ 1 < n ∧ 128 ≤ b1 ∧ b1 ≤ 159) ∨ ((225 ≤ b0 ∧ b0 ≤ 236 ∨ 238 ≤ b0 ∧ b0 ≤ 239) ∧ 1 < n ∧ 128 ≤ b1 ∧ b1 ≤ 191) then 3
  else if ¬ (3 < n ∧ 128 ≤ b3 ∧ b3 ≤ 191) then 0
  else if (b0 = 240 ∧ 144 ≤ b1 ∧ b1 ≤ 191) ∨ ((241 ≤ b0 ∧ b0 ≤ 243) ∧ 128 ≤ b1 ∧ b1 ≤ 191) ∨ (b0 = 244 ∧ 128 ≤ b1 ∧ b1 ≤ 143) then 4 else 0
set_option maxHeartbeats 4000000 in
/-- The decoder and the ranges say the same, the character's number with it. -/
theorem gN_dec (n b0 b1 b2 b3 : Nat) (h0 : b0 < 256) (h1 : b1 < 256) (h2 : b2 < 256) (h3 : b3 < 256) :
    (gN n b0 b1 b2 b3 = 0 ∧ Lib.decodeN n b0 b1 b2 b3 = (65533, 1) ∧ 128 ≤ b0) ∨
    (gN n b0 b1 b2 b3 = 1 ∧ Lib.decodeN n b0 b1 b2 b3 = (b0, 1) ∧ b0 ≤ 127) ∨
    (gN n b0 b1 b2 b3 = 2 ∧ Lib.decodeN n b0 b1 b2 b3 = ((b0 - 192) * 64 + b1 - 128, 2) ∧ 1 < n ∧ 194 ≤ b0 ∧ b0 ≤ 223 ∧ 128 ≤ b1 ∧ b1 ≤ 191) ∨
    (gN n b0 b1 b2 b3 = 3 ∧ Lib.decodeN n b0 b1 b2 b3 = (((b0 - 224) * 64 + b1 - 128) * 64 + b2 - 128, 3) ∧ 2 < n ∧ 224 ≤ b0 ∧ b0 ≤ 239 ∧ 128 ≤ b1 ∧ b1 ≤ 191 ∧ 128 ≤ b2 ∧ b2 ≤ 191) ∨
    (gN n b0 b1 b2 b3 = 4 ∧ Lib.decodeN n b0 b1 b2 b3 = ((((b0 - 240) * 64 + b1 - 128) * 64 + b2 - 128) * 64 + b3 - 128, 4) ∧ 3 < n ∧ 240 ≤ b0 ∧ b0 ≤ 244 ∧ 128 ≤ b1 ∧ b1 ≤ 191 ∧ 128 ≤ b2 ∧ b2 ≤ 191 ∧ 128 ≤ b3 ∧ b3 ≤ 191) := by
  by_cases c0 : b0 ≤ 127
  · exact .inr (.inl ⟨by unfold gN; rw [if_pos c0], by unfold Lib.decodeN; rw [if_pos (show b0 < 128 by omega)], c0⟩)
  · have k0 : ¬ b0 < 128 := by omega
    by_cases c1 : (194 ≤ b0 ∧ b0 ≤ 223) ∧ (1 < n ∧ 128 ≤ b1 ∧ b1 ≤ 191)
    · have k1 : b0 / 32 = 6 ∧ (1 < n ∧ b1 / 64 = 2) := by omega
      have k2 : b0 % 32 * 64 + b1 % 64 ≥ 128 := by omega
      have e : b0 % 32 * 64 + b1 % 64 = (b0 - 192) * 64 + b1 - 128 := by omega
      exact .inr (.inr (.inl ⟨by unfold gN; rw [if_neg c0, if_pos c1], by unfold Lib.decodeN; rw [if_neg k0, if_pos k1, if_pos k2, e], by omega⟩))
    · by_cases c2 : ¬ (2 < n ∧ 128 ≤ b2 ∧ b2 ≤ 191)
      · refine .inl ⟨by unfold gN; rw [if_neg c0, if_neg c1, if_pos c2], ?_, by omega⟩
        have k3 : ¬ (b0 / 16 = 14 ∧ (1 < n ∧ b1 / 64 = 2) ∧ (2 < n ∧ b2 / 64 = 2)) := by omega
        have k4 : ¬ (b0 / 8 = 30 ∧ (1 < n ∧ b1 / 64 = 2) ∧ (2 < n ∧ b2 / 64 = 2) ∧ (3 < n ∧ b3 / 64 = 2)) := by omega
        unfold Lib.decodeN
        rw [if_neg k0, if_neg k3, if_neg k4]
        split
        · rw [if_neg (by omega)]
        · rfl
      · by_cases c3 : (b0 = 224 ∧ 1 < n ∧ 160 ≤ b1 ∧ b1 ≤ 191) ∨ (b0 = 237 ∧ 1 < n ∧ 128 ≤ b1 ∧ b1 ≤ 159) ∨ ((225 ≤ b0 ∧ b0 ≤ 236 ∨ 238 ≤ b0 ∧ b0 ≤ 239) ∧ 1 < n ∧ 128 ≤ b1 ∧ b1 ≤ 191)
        · have k1 : ¬ (b0 / 32 = 6 ∧ (1 < n ∧ b1 / 64 = 2)) := by omega
          have k3 : b0 / 16 = 14 ∧ (1 < n ∧ b1 / 64 = 2) ∧ (2 < n ∧ b2 / 64 = 2) := by omega
          have e : b0 % 16 * 4096 + b1 % 64 * 64 + b2 % 64 = ((b0 - 224) * 64 + b1 - 128) * 64 + b2 - 128 := by omega
          have k5 : b0 % 16 * 4096 + b1 % 64 * 64 + b2 % 64 ≥ 2048 ∧ (b0 % 16 * 4096 + b1 % 64 * 64 + b2 % 64 < 55296 ∨ (57344 ≤ b0 % 16 * 4096 + b1 % 64 * 64 + b2 % 64 ∧ b0 % 16 * 4096 + b1 % 64 * 64 + b2 % 64 ≤ 1114111)) := by omega
          exact .inr (.inr (.inr (.inl ⟨by unfold gN; rw [if_neg c0, if_neg c1, if_neg c2, if_pos c3], by unfold Lib.decodeN; rw [if_neg k0, if_neg k1, if_pos k3, if_pos k5, e], by omega⟩)))
        · by_cases c4 : ¬ (3 < n ∧ 128 ≤ b3 ∧ b3 ≤ 191)
          · refine .inl ⟨by unfold gN; rw [if_neg c0, if_neg c1, if_neg c2, if_neg c3, if_pos c4], ?_, by omega⟩
            have k4 : ¬ (b0 / 8 = 30 ∧ (1 < n ∧ b1 / 64 = 2) ∧ (2 < n ∧ b2 / 64 = 2) ∧ (3 < n ∧ b3 / 64 = 2)) := by omega
            unfold Lib.decodeN
            rw [if_neg k0, if_neg k4]
            split
            · rw [if_neg (by omega)]
            · split
              · rw [if_neg (by omega)]
              · rfl
          · by_cases c5 : (b0 = 240 ∧ 144 ≤ b1 ∧ b1 ≤ 191) ∨ ((241 ≤ b0 ∧ b0 ≤ 243) ∧ 128 ≤ b1 ∧ b1 ≤ 191) ∨ (b0 = 244 ∧ 128 ≤ b1 ∧ b1 ≤ 143)
            · have k1 : ¬ (b0 / 32 = 6 ∧ (1 < n ∧ b1 / 64 = 2)) := by omega
              have k3 : ¬ (b0 / 16 = 14 ∧ (1 < n ∧ b1 / 64 = 2) ∧ (2 < n ∧ b2 / 64 = 2)) := by omega
              have k4 : b0 / 8 = 30 ∧ (1 < n ∧ b1 / 64 = 2) ∧ (2 < n ∧ b2 / 64 = 2) ∧ (3 < n ∧ b3 / 64 = 2) := by omega
              have e : b0 % 8 * 262144 + b1 % 64 * 4096 + b2 % 64 * 64 + b3 % 64 = (((b0 - 240) * 64 + b1 - 128) * 64 + b2 - 128) * 64 + b3 - 128 := by omega
              have k5 : b0 % 8 * 262144 + b1 % 64 * 4096 + b2 % 64 * 64 + b3 % 64 ≥ 65536 ∧ (b0 % 8 * 262144 + b1 % 64 * 4096 + b2 % 64 * 64 + b3 % 64 < 55296 ∨ (57344 ≤ b0 % 8 * 262144 + b1 % 64 * 4096 + b2 % 64 * 64 + b3 % 64 ∧ b0 % 8 * 262144 + b1 % 64 * 4096 + b2 % 64 * 64 + b3 % 64 ≤ 1114111)) := by omega
              exact .inr (.inr (.inr (.inr ⟨by unfold gN; rw [if_neg c0, if_neg c1, if_neg c2, if_neg c3, if_neg c4, if_pos c5], by unfold Lib.decodeN; rw [if_neg k0, if_neg k1, if_neg k3, if_pos k4, if_pos k5, e], by omega⟩)))
            · refine .inl ⟨by unfold gN; rw [if_neg c0, if_neg c1, if_neg c2, if_neg c3, if_neg c4, if_neg c5], ?_, by omega⟩
              unfold Lib.decodeN
              rw [if_neg k0]
              split
              · rw [if_neg (by omega)]
              · split
                · rw [if_neg (by omega)]
                · split
                  · rw [if_neg (by omega)]
                  · rfl
/-- Numbers of bytes. -/
def nms (l : List UInt8) : List Int := l.map fun x => (x.toNat : Int)
theorem nms_len (l : List UInt8) : (nms l).length = l.length := by simp [nms]
theorem nms_rd (l : List UInt8) (i : Nat) : rd (nms l) (i : Int) = ((l.getD i 0).toNat : Int) := by
  unfold rd nms
  rw [Int.toNat_natCast, List.getD_eq_getElem?_getD, List.getElem?_map, List.getD_eq_getElem?_getD]
  cases l[i]? <;> rfl
theorem btw_eq (l : List UInt8) (i : Nat) (lo hi : Nat) : incipitref01_between.f (nms l) (i : Int) (lo : Int) (hi : Int) = some (decide (i < l.length ∧ lo ≤ (l.getD i 0).toNat ∧ (l.getD i 0).toNat ≤ hi)) := by
  unfold incipitref01_between.f
  rw [nms_len, nms_rd]
  by_cases h : i < l.length
  · rw [if_pos (by omega), if_pos (by omega)]
    by_cases h2 : lo ≤ (l.getD i 0).toNat
    · rw [if_pos (by omega)]
      congr 1
      exact decide_eq_decide.2 (by omega)
    · rw [if_neg (by omega), decide_eq_false (by omega)]
  · rw [if_neg (by omega), decide_eq_false (by omega)]
end Go.Proofs.YtondbckghchmpaaDoor.Pl
