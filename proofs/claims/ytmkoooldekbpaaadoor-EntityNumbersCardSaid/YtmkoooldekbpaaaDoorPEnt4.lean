/-
  More of what entity.Read answers: how its answer lies in the text; masks. Condition: a text of at most 2^30 bytes.
-/
import Derived.Test.YtmkoooldekbpaaaDoorPEnt3
namespace Go.Proofs.YtmkoooldekbpaaaDoor.Pure
open Go.RowKit Go.Proofs.YtmkoooldekbpaaaDoorW.PrintWords Go.Proofs.YtmkoooldekbpaaaDoorW.PrintMore Go.Proofs.YtmkoooldekbpaaaDoor.Pl Go.Proofs.YtmkoooldekbpaaaDoor.PA

theorem and_mask (n : Int) (m : Nat) (hm : m < 4294967296) : ∃ r : Nat, bits .and .i64 n (m : Int) = (r : Int) ∧ r ≤ m := by
  have h1 : (BitVec.ofInt 64 (m : Int)).toNat = m := by rw [BitVec.ofInt_natCast, BitVec.toNat_ofNat]; exact Nat.mod_eq_of_lt (by omega)
  have h2 : (BitVec.ofInt 64 n &&& BitVec.ofInt 64 (m : Int)).toNat ≤ m := by rw [BitVec.toNat_and, h1]; exact Nat.and_le_right
  refine ⟨_, ?_, h2⟩
  show IntKind.i64.wrap ((BitVec.ofInt 64 n &&& BitVec.ofInt 64 (m : Int)).toNat : Int) = _
  exact IntWalk.i64_in _ (by omega)
theorem mask183 (n : Int) : ∃ j : Nat, Int.tmod (Go.bits .and .i64 n 65535) ((183 : Nat) : Int) = (j : Int) ∧ j < 183 := by
  obtain ⟨r, hr, _⟩ := and_mask n 65535 (by decide)
  refine ⟨r % 183, ?_, Nat.mod_lt _ (by decide)⟩
  rw [show Go.bits .and .i64 n 65535 = (r : Int) from hr]
  exact (Int.ofNat_tmod r 183).symm
theorem enc_ne (n : Int) : (Go.Utf8.encode n).toList ≠ [] := by
  intro e
  rw [Lib.toList_data] at e
  unfold Go.Utf8.encode at e
  generalize (if Go.Utf8.valid n = true then n.toNat else Go.Utf8.runeError) = c at e
  simp only [] at e
  split at e
  · simp at e
  · split at e
    · simp at e
    · split at e
      · simp at e
      · simp at e
theorem nmd_ok (t : List UInt8) (h : (nmd t).2 = true) : 2 ≤ t.length ∧ (nmd t).1.toList ≠ [] := by
  rcases nmd_cases t with ⟨k, hk, rfl⟩ | hn
  · refine ⟨(enm_facts k hk).1, ?_⟩
    rw [nmd_hit k hk]
    generalize enn k = n
    exact enc_ne n
  · rw [nmd_miss t hn] at h
    cases h
theorem chr_ok (b most : Nat) (ok : UInt8 → Bool) (t : List UInt8) (h : (chr b most ok t).2 = true) : 1 ≤ t.length ∧ (chr b most ok t).1.toList ≠ [] := by
  unfold chr at h ⊢
  split at h
  · cases h
  · rename_i hc
    rw [if_neg hc]
    refine ⟨?_, enc_ne (fixr (num b t))⟩
    rw [not_or] at hc
    exact List.length_pos_iff.2 hc.1
theorem bdy_ok (t : List UInt8) (h : (bdy t).2 = true) : 2 ≤ t.length ∧ (bdy t).1.toList ≠ [] := by
  cases t with
  | nil => exact nmd_ok [] h
  | cons x d =>
    by_cases hx : x = 35
    · subst hx
      cases d with
      | nil =>
        rw [bdy_35] at h
        exact absurd (chr_ok 10 7 dg [] h).1 (by decide)
      | cons y d =>
        rw [bdy_two] at h ⊢
        by_cases hy : (y.toNat ||| 32) = 120
        · rw [if_pos hy] at h ⊢
          have := chr_ok _ _ _ _ h
          exact ⟨by simp, this.2⟩
        · rw [if_neg hy] at h ⊢
          have := chr_ok _ _ _ _ h
          exact ⟨by simp, this.2⟩
    · rw [bdy_no x d hx] at h ⊢
      exact nmd_ok _ h
theorem chr_no (b most : Nat) (ok : UInt8 → Bool) (t : List UInt8) (h : (chr b most ok t).2 = false) : (chr b most ok t).1 = ⟨#[]⟩ := by
  unfold chr at h ⊢
  split at h
  · rename_i hc
    rw [if_pos hc]
  · cases h
/-- What is read, and what is not. -/
theorem rdE_cases (s : List UInt8) : rdE s = (⟨#[]⟩, 0) ∨ ∃ d u, s = 38 :: (d ++ 59 :: u) ∧ (59 : UInt8) ∉ d ∧ (bdy d).2 = true ∧ rdE s = ((bdy d).1, (d.length : Int) + 2) := by
  cases s with
  | nil => exact .inl rfl
  | cons x t =>
    by_cases hx : x = 38
    · subst hx
      by_cases h : (59 : UInt8) ∈ t
      · by_cases hb : (bdy (upto t)).2 = true
        · have hl := upto_lt t h
          refine .inr ⟨upto t, t.drop ((upto t).length + 1), ?_, upto_no t, hb, by rw [rdE, if_pos rfl, if_pos h, if_pos hb]⟩
          congr 1
          have h59 : ∀ t : List UInt8, (59 : UInt8) ∈ t → t = upto t ++ 59 :: t.drop ((upto t).length + 1) := by
            intro t
            induction t with
            | nil => intro h; cases h
            | cons x t ih =>
              intro h
              by_cases hx : x = 59
              · subst hx
                simp [upto]
              · have h2 : (59 : UInt8) ∈ t := by rcases List.mem_cons.1 h with e | e; exact absurd e.symm hx; exact e
                rw [upto, if_neg hx, List.length_cons, List.drop_succ_cons, List.cons_append, ← ih h2]
          exact h59 t h
        · exact .inl (by rw [rdE, if_pos rfl, if_pos h, if_neg hb])
      · exact .inl (by rw [rdE, if_pos rfl, if_neg h])
    · exact .inl (by rw [rdE, if_neg hx])
theorem rdE_at (d u : List UInt8) (h : (59 : UInt8) ∉ d) : rdE (38 :: (d ++ 59 :: u)) = if (bdy d).2 = true then ((bdy d).1, (d.length : Int) + 2) else (⟨#[]⟩, 0) := by
  rw [rdE, if_pos rfl, if_pos (by simp), upto_at d u h]
theorem rdE_open (d : List UInt8) (h : (59 : UInt8) ∉ d) : rdE (38 :: d) = (⟨#[]⟩, 0) := by rw [rdE, if_pos rfl, if_neg h]
theorem rdE_x (s : List UInt8) : rdE (120 :: s) = (⟨#[]⟩, 0) := by rw [rdE, if_neg (by decide)]
end Go.Proofs.YtmkoooldekbpaaaDoor.Pure
