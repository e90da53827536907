/-
  The reference's Clean is text.Clean. Condition: a text of at most 10^6 bytes.
-/
import Derived.Test.YtondbckghchmpaaDoorPGood2
import Derived.Test.YtondbckghchmpaaDoorPAx7
namespace Go.Proofs.YtondbckghchmpaaDoor.Pl
open Go.RowKit Go.Proofs.YtondbckghchmpaaDoorW.PrintWords Go.Proofs.YtondbckghchmpaaDoorW.PrintMore Go.Proofs.YtondbckghchmpaaDoor.PA

theorem nms_str (l : List UInt8) : strOfNums (nms l) = B l := by
  apply B_ext
  rw [B_data]
  simp [strOfNums, nms, Function.comp_def]
theorem nms_app (a b : List UInt8) : nms a ++ nms b = nms (a ++ b) := by simp [nms]
theorem nms_drop (l : List UInt8) (n : Nat) : (nms l).drop n = nms (l.drop n) := by simp [nms]
theorem nms_take (l : List UInt8) (n : Nat) : (nms l).take n = nms (l.take n) := by simp [nms]
/-- How many bytes the reference's character is, 0: none. -/
def gl (l : List UInt8) : Nat := gN l.length (l.getD 0 0).toNat (l.getD 1 0).toNat (l.getD 2 0).toNat (l.getD 3 0).toNat
theorem gl_dec (x : UInt8) (t : List UInt8) : (gl (x :: t) = 0 ∧ (dec (x :: t)).2 = 1 ∧ 128 ≤ x.toNat) ∨ (gl (x :: t) = (dec (x :: t)).2 ∧ 1 ≤ gl (x :: t) ∧ ¬ ((dec (x :: t)).2 = 1 ∧ 128 ≤ x.toNat)) := by
  have h := gN_dec (x :: t).length ((x :: t).getD 0 0).toNat ((x :: t).getD 1 0).toNat ((x :: t).getD 2 0).toNat ((x :: t).getD 3 0).toNat (UInt8.toNat_lt _) (UInt8.toNat_lt _) (UInt8.toNat_lt _) (UInt8.toNat_lt _)
  rw [← dec_eq (x :: t) (by simp)] at h
  have e : ((x :: t).getD 0 0).toNat = x.toNat := rfl
  unfold gl
  rw [e] at h ⊢
  rcases h with ⟨g, d, c⟩ | ⟨g, d, c⟩ | ⟨g, d, c⟩ | ⟨g, d, c⟩ | ⟨g, d, c⟩
  · exact .inl ⟨g, by rw [d], c⟩
  · exact .inr ⟨by rw [g, d], by omega, by rw [d]; omega⟩
  · exact .inr ⟨by rw [g, d], by omega, by rw [d]; omega⟩
  · exact .inr ⟨by rw [g, d], by omega, by rw [d]; omega⟩
  · exact .inr ⟨by rw [g, d], by omega, by rw [d]; omega⟩
theorem good_ev (l : List UInt8) (h : l ≠ []) : Ev (fun k => incipitref01_good.f k (nms l)) ((gl l : Nat) : Int) :=
  ⟨7, fun k hk => by
    obtain ⟨j, rfl⟩ : ∃ j, k = j + 7 := ⟨k - 7, by omega⟩
    exact good_eq l h j⟩
theorem rclean_l : ∀ (n : Nat) (l acc : List UInt8), l.length ≤ n → acc.length + 3 * l.length ≤ 10000000 → Ev (fun k => incipitref01_Clean.l0 k (nms l) (nms acc)) (B (acc ++ clean l)) := by
  intro n
  induction n with
  | zero =>
    intro l acc hl _
    obtain rfl : l = [] := List.length_eq_zero_iff.1 (by omega)
    refine Ev.step (f := fun _ => some (B (acc ++ clean []))) (fun k => ?_) (Ev.now _)
    simp only [incipitref01_Clean.l0]
    rw [if_neg (by rw [nms_len]; simp), nms_str, clean_nil, List.append_nil]
  | succ n ih =>
    intro l acc hl hb
    cases l with
    | nil =>
      refine Ev.step (f := fun _ => some (B (acc ++ clean []))) (fun k => ?_) (Ev.now _)
      simp only [incipitref01_Clean.l0]
      rw [if_neg (by rw [nms_len]; simp), nms_str, clean_nil, List.append_nil]
    | cons x t =>
      rw [List.length_cons] at hl hb
      have hln : (nms (x :: t)).length = t.length + 1 := by rw [nms_len]; rfl
      have han : (nms acc).length = acc.length := nms_len _
      have r0 : rd (nms (x :: t)) 0 = (x.toNat : Int) := nms_rd (x :: t) 0
      have e0 : ((x.toNat : Int) = 0) ↔ x = 0 := u8_eq x 0 (by decide)
      have hd := dec_len (x :: t) (by simp)
      rw [List.length_cons] at hd
      have mark : ([239, 191, 189] : List Int) = nms [239, 191, 189] := rfl
      have hbad : (x = 0 ∨ ((dec (x :: t)).2 = 1 ∧ 128 ≤ x.toNat)) → Ev (fun k => incipitref01_Clean.l0 k ((nms (x :: t)).drop 1) (nms acc ++ [239, 191, 189])) (B (acc ++ clean (x :: t))) := by
        intro h
        rw [clean_bad x t h, mark, nms_app, nms_drop, ← List.append_assoc]
        exact ih t (acc ++ [239, 191, 189]) (by omega) (by rw [List.length_append]; simp; omega)
      refine Ev.step (f := fun k => (incipitref01_good.f k (nms (x :: t))).bind _) (fun k => by simp only [incipitref01_Clean.l0]; rw [if_pos (by rw [hln]; omega)]) (Ev.bind (good_ev (x :: t) (by simp)) ?_)
      rcases gl_dec x t with ⟨g, d, c⟩ | ⟨g, d, c⟩
      · refine Ev.congr (fun k => ?_) (hbad (.inr ⟨d, c⟩))
        rw [g, if_pos (show (((0 : Nat) : Int)) = 0 from rfl), Option.bind_some, if_pos (by rw [han]; simp; omega), if_pos (by rw [hln]; omega)]
      · by_cases hx : x = 0
        · refine Ev.congr (fun k => ?_) (hbad (.inl hx))
          rw [if_neg (by omega), if_pos (by rw [hln]; omega), r0, if_pos (e0.2 hx), Option.bind_some, if_pos (by rw [han]; simp; omega), if_pos (by rw [hln]; omega)]
        · have hc := clean_good x t (by rintro (e | e); exact hx e; exact c e)
          rw [hc, ← List.append_assoc]
          have h3 := ih ((x :: t).drop (dec (x :: t)).2) (acc ++ (x :: t).take (dec (x :: t)).2) (by rw [List.length_drop, List.length_cons]; omega) (by rw [List.length_append, List.length_drop, List.length_take, List.length_cons]; omega)
          refine Ev.congr (fun k => ?_) h3
          rw [if_neg (by omega), if_pos (by rw [hln]; omega), r0, if_neg (fun e => hx (e0.1 e)), if_pos (by omega), if_pos (by rw [hln]; omega), Option.bind_some, g, Int.toNat_natCast, nms_take, nms_drop, if_pos (by rw [han, nms_len, List.length_take]; omega), nms_app]
theorem rclean_ev (l : List UInt8) (hl : l.length ≤ 1000000) : Ev (fun k => incipitref01_Clean.f k (nms l)) (B (clean l)) :=
  rclean_l l.length l [] (Nat.le_refl _) (by simp; omega)
end Go.Proofs.YtondbckghchmpaaDoor.Pl
