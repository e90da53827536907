/-
  What entity.Read answers, in plain words. Condition: a text of at most 2^30 bytes.
-/
import Derived.Test.YtinpchebcnkckaaGreatDoorGBody
import Derived.Test.YtinpchebcnkckaaGreatDoorGLib
import Derived.Lib.IndexMore
namespace Go.Proofs.YtinpchebcnkckaaGreatDoor.Pure
open Go.RowKit Go.Proofs.YtinpchebcnkckaaGreatDoorW.PrintWords Go.Proofs.YtinpchebcnkckaaGreatDoorW.PrintMore Go.Proofs.YtinpchebcnkckaaGreatDoor.Pl Go.Proofs.YtinpchebcnkckaaGreatDoor.PA

/-- What stands ahead of the first ;. -/
def upto : List UInt8 → List UInt8
  | [] => []
  | x :: t => if x = 59 then [] else x :: upto t
theorem upto_len : ∀ t : List UInt8, (upto t).length ≤ t.length
  | [] => Nat.le_refl _
  | x :: t => by
    have := upto_len t
    unfold upto
    split
    · simp
    · simp; exact this
theorem upto_lt : ∀ t : List UInt8, (59 : UInt8) ∈ t → (upto t).length < t.length
  | [], h => by cases h
  | x :: t, h => by
    unfold upto
    split
    · simp
    · rename_i hx
      have := upto_lt t (by rcases List.mem_cons.1 h with e | e; exact absurd e.symm hx; exact e)
      simpa using this
theorem upto_take : ∀ t : List UInt8, t.take (upto t).length = upto t
  | [] => rfl
  | x :: t => by
    unfold upto
    split
    · rfl
    · simp [upto_take t]
theorem upto_no : ∀ t : List UInt8, (59 : UInt8) ∉ upto t
  | [] => by simp [upto]
  | x :: t => by
    unfold upto
    split
    · simp
    · rename_i hx
      rw [List.mem_cons]
      rintro (e | e)
      · exact hx e.symm
      · exact upto_no t e
theorem upto_at : ∀ (d u : List UInt8), (59 : UInt8) ∉ d → upto (d ++ 59 :: u) = d
  | [], u, _ => by simp [upto]
  | x :: d, u, h => by
    rw [List.mem_cons, not_or] at h
    rw [List.cons_append, upto, if_neg (fun e => h.1 e.symm), upto_at d u h.2]
theorem idx59 : ∀ t : List UInt8, Lib.index t [59] = if (59 : UInt8) ∈ t then ((upto t).length : Int) else -1
  | [] => by rw [if_neg (by simp)]; rfl
  | x :: t => by
    rw [Lib.index, upto]
    by_cases hx : x = 59
    · subst hx
      rw [if_pos (by simp [List.isPrefixOf]), if_pos (by simp), if_pos rfl]
      rfl
    · have hm : (59 : UInt8) ∈ x :: t ↔ (59 : UInt8) ∈ t := by rw [List.mem_cons]; exact ⟨fun h => h.resolve_left (fun e => hx e.symm), .inr⟩
      rw [if_neg (by simp [List.isPrefixOf] <;> exact fun e => hx e.symm), idx59 t, if_neg hx]
      by_cases h : (59 : UInt8) ∈ t
      · rw [if_pos h, if_pos (hm.2 h), if_neg (by simp <;> omega)]
        simp
      · rw [if_neg h, if_neg (fun e => h (hm.1 e))]
        rfl
theorem cut59 (t : List UInt8) : Lib.cut t [59] = if (59 : UInt8) ∈ t then (upto t, t.drop ((upto t).length + 1), true) else (t, [], false) := by
  unfold Lib.cut
  rw [idx59]
  by_cases h : (59 : UInt8) ∈ t
  · rw [if_pos h, if_pos (by omega), if_pos h, Int.toNat_natCast, upto_take]
    rfl
  · rw [if_neg h, if_neg (by decide), if_neg h]
/-- What is read. -/
def rdE : List UInt8 → ByteArray × Int
  | [] => (⟨#[]⟩, 0)
  | x :: t => if x = 38 then if (59 : UInt8) ∈ t then if (bdy (upto t)).2 = true then ((bdy (upto t)).1, ((upto t).length : Int) + 2) else (⟨#[]⟩, 0) else (⟨#[]⟩, 0) else (⟨#[]⟩, 0)
/-! #### names -/
theorem bsr_self : ∀ k, k < 183 → bsr (enm k) 183 0 183 = k := by
  have h : (List.range 183).all (fun k => bsr (enm k) 183 0 183 == k) = true := by decide +kernel
  intro k hk
  exact beq_iff_eq.1 (List.all_eq_true.1 h k (List.mem_range.2 hk))
theorem nmd_hit (k : Nat) (hk : k < 183) : nmd (enm k) = (Go.Utf8.encode (enn k), true) := by
  unfold nmd
  rw [bsr_self k hk, if_pos ⟨hk, rfl⟩]
theorem nmd_miss (t : List UInt8) (h : ∀ k, k < 183 → enm k ≠ t) : nmd t = (⟨#[]⟩, false) := by
  unfold nmd
  rw [if_neg (fun e => h _ e.1 e.2)]
theorem nmd_cases (t : List UInt8) : (∃ k, k < 183 ∧ enm k = t) ∨ ∀ k, k < 183 → enm k ≠ t := by
  by_cases h : ∃ k, k < 183 ∧ enm k = t
  · exact .inl h
  · exact .inr (fun k hk e => h ⟨k, hk, e⟩)
theorem enm_facts : ∀ k, k < 183 → 2 ≤ (enm k).length ∧ (enm k).length ≤ 24 ∧ (59 : UInt8) ∉ enm k ∧ (35 : UInt8) ∉ enm k := by
  have h : (List.range 183).all (fun k => decide (2 ≤ (enm k).length ∧ (enm k).length ≤ 24 ∧ (59 : UInt8) ∉ enm k ∧ (35 : UInt8) ∉ enm k)) = true := by decide +kernel
  intro k hk
  exact of_decide_eq_true (List.all_eq_true.1 h k (List.mem_range.2 hk))
/-- What is read, and what is not. -/
theorem rdE_cases (s : List UInt8) : rdE s = (⟨#[]⟩, 0) ∨ ∃ d u, s = 38 :: (d ++ 59 :: u) ∧ (59 : UInt8) ∉ d ∧ (bdy d).2 = true ∧ rdE s = ((bdy d).1, (d.length : Int) + 2) := by
  cases s with
  | nil => exact .inl rfl
  | cons x t =>
    by_cases hx : x = 38
    · subst hx
      by_cases h : (59 : UInt8) ∈ t
      · by_cases hb : (bdy (upto t)).2 = true
        · have hl := upto_lt t h
          refine .inr ⟨upto t, t.drop ((upto t).length + 1), ?_, upto_no t, hb, by rw [rdE, if_pos rfl, if_pos h, if_pos hb]⟩
          congr 1
          have h59 : ∀ t : List UInt8, (59 : UInt8) ∈ t → t = upto t ++ 59 :: t.drop ((upto t).length + 1) := by
            intro t
            induction t with
            | nil => intro h; cases h
            | cons x t ih =>
              intro h
              by_cases hx : x = 59
              · subst hx
                simp [upto]
              · have h2 : (59 : UInt8) ∈ t := by rcases List.mem_cons.1 h with e | e; exact absurd e.symm hx; exact e
                rw [upto, if_neg hx, List.length_cons, List.drop_succ_cons, List.cons_append, ← ih h2]
          exact h59 t h
        · exact .inl (by rw [rdE, if_pos rfl, if_pos h, if_neg hb])
      · exact .inl (by rw [rdE, if_pos rfl, if_neg h])
    · exact .inl (by rw [rdE, if_neg hx])
theorem rdE_at (d u : List UInt8) (h : (59 : UInt8) ∉ d) : rdE (38 :: (d ++ 59 :: u)) = if (bdy d).2 = true then ((bdy d).1, (d.length : Int) + 2) else (⟨#[]⟩, 0) := by
  rw [rdE, if_pos rfl, if_pos (by simp), upto_at d u h]
theorem rdE_open (d : List UInt8) (h : (59 : UInt8) ∉ d) : rdE (38 :: d) = (⟨#[]⟩, 0) := by rw [rdE, if_pos rfl, if_neg h]
end Go.Proofs.YtinpchebcnkckaaGreatDoor.Pure
