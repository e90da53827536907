/-
  The plain law of EntityAll: what its printed function computes is true at every input of the row's form.
-/
import Derived.Test.YtmkoooldekbpaaaDoorPEnt4
import Derived.Test.YtmkoooldekbpaaaDoorPAx4
namespace Go.Proofs.YtmkoooldekbpaaaDoor.Pure
open Go.RowKit Go.Proofs.YtmkoooldekbpaaaDoorW.PrintWords Go.Proofs.YtmkoooldekbpaaaDoorW.PrintMore Go.Proofs.YtmkoooldekbpaaaDoor.Pl Go.Proofs.YtmkoooldekbpaaaDoor.PA

theorem bdy_name (j : Nat) (hj : j < 183) (t : List UInt8) : bdy (enm j ++ t) = nmd (enm j ++ t) := by
  obtain ⟨h1, _, _, h4⟩ := enm_facts j hj
  cases he : enm j with
  | nil => rw [he] at h1; simp at h1
  | cons x d =>
    rw [he] at h4
    rw [List.cons_append]
    exact bdy_no x _ (fun e => h4 (by rw [e]; simp))
theorem EntityAll : ∀ (a0 : Int) (a1 : Int), (Lit.int .i64 a0).wf = true → (Lit.int .u8 a1).wf = true → PA.incipitlaw04_EntityAll.f a0 a1 = some true := by
  intro a0 a1 _ hw
  obtain ⟨c, rfl⟩ : ∃ c : UInt8, a1 = (c.toNat : Int) := by
    have h2 : (0 : Int) ≤ a1 ∧ a1 ≤ 255 := by simpa [Lit.wf, IntKind.min, IntKind.max, IntKind.signed, IntKind.bits] using hw
    exact ⟨UInt8.ofNat a1.toNat, by rw [UInt8.toNat_ofNat']; omega⟩
  obtain ⟨j, hj, hjl⟩ := mask183 a0
  obtain ⟨h2, h24, h59, h35⟩ := enm_facts j hjl
  have hb := bdy_name j hjl
  have hhit := nmd_hit j hjl
  have hmiss : c = 59 → nmd (enm j ++ [c]) = (⟨#[]⟩, false) := by
    rintro rfl
    refine nmd_miss _ (fun k hk e => ?_)
    have h := (enm_facts k hk).2.2.1
    rw [e] at h
    simp at h
  have hc : strOfNums [(c.toNat : Int)] = B [c] := by
    show (⟨#[UInt8.ofNat ((c.toNat : Int)).toNat]⟩ : ByteArray) = _
    rw [Int.toNat_natCast]
    simp [B]
  have s0 : B (enm j) ++ B [c] = B (enm j ++ [c]) := B_append _ _
  have s1 : (⟨#[38]⟩ : ByteArray) ++ B (enm j) = B (38 :: enm j) := by rw [show (⟨#[38]⟩ : ByteArray) = B [38] from rfl, B_append]; rfl
  have s2 : B (38 :: enm j) ++ (⟨#[59]⟩ : ByteArray) = B (38 :: (enm j ++ [59])) := by rw [show (⟨#[59]⟩ : ByteArray) = B [59] from rfl, B_append]; rfl
  have s3 : (⟨#[38]⟩ : ByteArray) ++ B (enm j ++ [c]) = B (38 :: (enm j ++ [c])) := by rw [show (⟨#[38]⟩ : ByteArray) = B [38] from rfl, B_append]; rfl
  have s4 : B (38 :: (enm j ++ [c])) ++ (⟨#[59]⟩ : ByteArray) = B (38 :: ((enm j ++ [c]) ++ [59])) := by rw [show (⟨#[59]⟩ : ByteArray) = B [59] from rfl, B_append]; rfl
  have hb0 := hb []
  rw [List.append_nil, hhit] at hb0
  have r1 : entity_Read.f (B (38 :: (enm j ++ [59]))) = some (Go.Utf8.encode (enn j), ((enm j).length : Int) + 2) := by
    rw [read_eq _ (by simp; omega), rdE_at (enm j) [] h59, hb0, if_pos rfl]
  have r3 : entity_Named.f (B (enm j ++ [c])) = some (nmd (enm j ++ [c])) := by unfold entity_Named.f; rw [B_data]
  have ew : wrap64 (((B (enm j)).size : Int) + 2) = ((enm j).length : Int) + 2 := by rw [B_size, w64 (by omega) (by omega)]
  unfold PA.incipitlaw04_EntityAll.f
  rw [awake_eq]
  simp only [Option.bind_some]
  rw [show incipitref04_Table.f = some rtS from rfl, Option.bind_some, rtS_len, if_neg (by decide), hj, if_pos (by omega), if_pos (by omega), rd_row j hjl]
  simp only
  rw [if_pos (by rw [B_size]; omega), s1, if_pos (by rw [B_size, List.length_cons]; omega), s2, r1, Option.bind_some, hc, if_pos (by rw [B_size, B_size]; simp; omega), s0, if_pos (by rw [B_size]; simp; omega), s3, if_pos (by rw [B_size]; simp; omega), s4, r3, ew]
  by_cases h : c = 59
  · have r2 : entity_Read.f (B (38 :: ((enm j ++ [c]) ++ [59]))) = some (Go.Utf8.encode (enn j), ((enm j).length : Int) + 2) := by
      subst h
      rw [show (38 : UInt8) :: ((enm j ++ [59]) ++ [59]) = 38 :: (enm j ++ 59 :: [59]) by simp, read_eq _ (by simp; omega), rdE_at (enm j) [59] h59, hb0, if_pos rfl]
    rw [r2, Option.bind_some, Option.bind_some, hmiss h, if_pos (by rw [h]; rfl), if_pos trivial]
    dsimp only
    rw [if_pos rfl, if_pos rfl, if_pos rfl, if_pos rfl]
    rfl
  · have hn : ¬ (c.toNat : Int) = 59 := fun e => h ((u8_eq c 59 (by decide)).1 e)
    have r2 : entity_Read.f (B (38 :: ((enm j ++ [c]) ++ [59]))) = some (if (nmd (enm j ++ [c])).2 = true then ((nmd (enm j ++ [c])).1, ((enm j ++ [c]).length : Int) + 2) else (⟨#[]⟩, 0)) := by
      rw [read_eq _ (by simp; omega), rdE_at (enm j ++ [c]) [] (by simp; exact ⟨h59, fun e => h e.symm⟩), hb]
    rw [r2, Option.bind_some, Option.bind_some, if_neg hn, if_pos trivial]
    dsimp only
    rw [if_pos rfl, if_pos rfl]
    rcases nmd_cases (enm j ++ [c]) with ⟨k, hk, e⟩ | hno
    · rw [← e, nmd_hit k hk]
      simp only [if_true]
      rw [decide_eq_true (by omega)]
      rfl
    · rw [nmd_miss _ hno]
      simp only [Bool.false_eq_true, if_false, if_true]
      decide
end Go.Proofs.YtmkoooldekbpaaaDoor.Pure
