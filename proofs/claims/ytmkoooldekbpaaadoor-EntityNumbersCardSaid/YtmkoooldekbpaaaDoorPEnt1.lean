/-
  What entity.Read answers, in plain words. Condition: a text of at most 2^30 bytes.
-/
import Derived.Test.YtmkoooldekbpaaaDoorPAx1
import Derived.Lib.IndexMore
namespace Go.Proofs.YtmkoooldekbpaaaDoor.Pure
open Go.RowKit Go.Proofs.YtmkoooldekbpaaaDoorW.PrintWords Go.Proofs.YtmkoooldekbpaaaDoorW.PrintMore Go.Proofs.YtmkoooldekbpaaaDoor.Pl Go.Proofs.YtmkoooldekbpaaaDoor.PA

/-- What stands ahead of the first ;. -/
def upto : List UInt8 → List UInt8
  | [] => []
  | x :: t => if x = 59 then [] else x :: upto t
theorem upto_len : ∀ t : List UInt8, (upto t).length ≤ t.length
  | [] => Nat.le_refl _
  | x :: t => by
    have := upto_len t
    unfold upto
    split
    · simp
    · simp; exact this
theorem upto_lt : ∀ t : List UInt8, (59 : UInt8) ∈ t → (upto t).length < t.length
  | [], h => by cases h
  | x :: t, h => by
    unfold upto
    split
    · simp
    · rename_i hx
      have := upto_lt t (by rcases List.mem_cons.1 h with e | e; exact absurd e.symm hx; exact e)
      simpa using this
theorem upto_take : ∀ t : List UInt8, t.take (upto t).length = upto t
  | [] => rfl
  | x :: t => by
    unfold upto
    split
    · rfl
    · simp [upto_take t]
theorem upto_no : ∀ t : List UInt8, (59 : UInt8) ∉ upto t
  | [] => by simp [upto]
  | x :: t => by
    unfold upto
    split
    · simp
    · rename_i hx
      rw [List.mem_cons]
      rintro (e | e)
      · exact hx e.symm
      · exact upto_no t e
theorem upto_at : ∀ (d u : List UInt8), (59 : UInt8) ∉ d → upto (d ++ 59 :: u) = d
  | [], u, _ => by simp [upto]
  | x :: d, u, h => by
    rw [List.mem_cons, not_or] at h
    rw [List.cons_append, upto, if_neg (fun e => h.1 e.symm), upto_at d u h.2]
theorem idx59 : ∀ t : List UInt8, Lib.index t [59] = if (59 : UInt8) ∈ t then ((upto t).length : Int) else -1
  | [] => by rw [if_neg (by simp)]; rfl
  | x :: t => by
    rw [Lib.index, upto]
    by_cases hx : x = 59
    · subst hx
      rw [if_pos (by simp [List.isPrefixOf]), if_pos (by simp), if_pos rfl]
      rfl
    · have hm : (59 : UInt8) ∈ x :: t ↔ (59 : UInt8) ∈ t := by rw [List.mem_cons]; exact ⟨fun h => h.resolve_left (fun e => hx e.symm), .inr⟩
      rw [if_neg (by simp [List.isPrefixOf] <;> exact fun e => hx e.symm), idx59 t, if_neg hx]
      by_cases h : (59 : UInt8) ∈ t
      · rw [if_pos h, if_pos (hm.2 h), if_neg (by simp <;> omega)]
        simp
      · rw [if_neg h, if_neg (fun e => h (hm.1 e))]
        rfl
theorem cut59 (t : List UInt8) : Lib.cut t [59] = if (59 : UInt8) ∈ t then (upto t, t.drop ((upto t).length + 1), true) else (t, [], false) := by
  unfold Lib.cut
  rw [idx59]
  by_cases h : (59 : UInt8) ∈ t
  · rw [if_pos h, if_pos (by omega), if_pos h, Int.toNat_natCast, upto_take]
    rfl
  · rw [if_neg h, if_neg (by decide), if_neg h]
/-- What is read. -/
def rdE : List UInt8 → ByteArray × Int
  | [] => (⟨#[]⟩, 0)
  | x :: t => if x = 38 then if (59 : UInt8) ∈ t then if (bdy (upto t)).2 = true then ((bdy (upto t)).1, ((upto t).length : Int) + 2) else (⟨#[]⟩, 0) else (⟨#[]⟩, 0) else (⟨#[]⟩, 0)
theorem read_eq (s : List UInt8) (hs : s.length ≤ 1073741824) : entity_Read.f (B s) = some (rdE s) := by
  unfold entity_Read.f strings_HasPrefix.f
  rw [B_data, show (⟨#[38]⟩ : ByteArray).data.toList = [38] from rfl]
  simp only [Option.bind_some]
  cases s with
  | nil =>
    rw [if_neg (by decide)]
    rfl
  | cons x t =>
    rw [List.length_cons] at hs
    by_cases hx : x = 38
    · subst hx
      rw [if_pos (by simp [Lib.hasPrefix, List.isPrefixOf]), if_pos (by rw [B_size, List.length_cons]; omega), rdE, if_pos rfl, B_extract, B_size]
      have he : List.take ((38 :: t).length - 1) (List.drop 1 ((38 : UInt8) :: t)) = t := by
        rw [List.drop_one, List.tail_cons]
        exact List.take_of_length_le (by simp)
      rw [he]
      unfold strings_Cut.f
      rw [if_pos (by rw [B_size]; omega), B_data, show (⟨#[59]⟩ : ByteArray).data.toList = [59] from rfl, cut59]
      simp only [Option.bind_some]
      by_cases h : (59 : UInt8) ∈ t
      · rw [if_pos h, if_pos rfl, if_pos h]
        have hl := upto_len t
        show (entity_body.f (B (upto t))).bind _ = _
        unfold entity_body.f
        rw [if_pos (by rw [B_size]; omega), B_data, Option.bind_some]
        by_cases hb : (bdy (upto t)).2 = true
        · rw [if_pos hb, if_pos hb, show (⟨(upto t).toArray⟩ : ByteArray) = B (upto t) from rfl, B_size, w64 (by omega) (by omega)]
        · rw [if_neg hb, if_neg hb]
      · rw [if_neg h, if_neg (by simp), if_neg h]
    · rw [if_neg (by simp [Lib.hasPrefix, List.isPrefixOf] <;> exact fun e => hx e.symm), rdE, if_neg hx]
theorem awake_eq : incipitlaw04_awake.f = some true := by decide +kernel
/-! #### names -/
theorem bsr_self : ∀ k, k < 183 → bsr (enm k) 183 0 183 = k := by
  have h : (List.range 183).all (fun k => bsr (enm k) 183 0 183 == k) = true := by decide +kernel
  intro k hk
  exact beq_iff_eq.1 (List.all_eq_true.1 h k (List.mem_range.2 hk))
theorem nmd_hit (k : Nat) (hk : k < 183) : nmd (enm k) = (Go.Utf8.encode (enn k), true) := by
  unfold nmd
  rw [bsr_self k hk, if_pos ⟨hk, rfl⟩]
theorem nmd_miss (t : List UInt8) (h : ∀ k, k < 183 → enm k ≠ t) : nmd t = (⟨#[]⟩, false) := by
  unfold nmd
  rw [if_neg (fun e => h _ e.1 e.2)]
theorem nmd_cases (t : List UInt8) : (∃ k, k < 183 ∧ enm k = t) ∨ ∀ k, k < 183 → enm k ≠ t := by
  by_cases h : ∃ k, k < 183 ∧ enm k = t
  · exact .inl h
  · exact .inr (fun k hk e => h ⟨k, hk, e⟩)
theorem enm_facts : ∀ k, k < 183 → 2 ≤ (enm k).length ∧ (enm k).length ≤ 24 ∧ (59 : UInt8) ∉ enm k ∧ (35 : UInt8) ∉ enm k := by
  have h : (List.range 183).all (fun k => decide (2 ≤ (enm k).length ∧ (enm k).length ≤ 24 ∧ (59 : UInt8) ∉ enm k ∧ (35 : UInt8) ∉ enm k)) = true := by decide +kernel
  intro k hk
  exact of_decide_eq_true (List.all_eq_true.1 h k (List.mem_range.2 hk))
end Go.Proofs.YtmkoooldekbpaaaDoor.Pure
