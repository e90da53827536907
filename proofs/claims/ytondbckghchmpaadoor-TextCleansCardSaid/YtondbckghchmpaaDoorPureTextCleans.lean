/-
  The plain law of TextCleans: what its printed function computes is true at every input of the row's form.
-/
import Derived.Test.YtondbckghchmpaaDoorPAx6
import Derived.Test.YtondbckghchmpaaDoorPCln
namespace Go.Proofs.YtondbckghchmpaaDoor.Pure
open Go.RowKit Go.Proofs.YtondbckghchmpaaDoorW.PrintWords Go.Proofs.YtondbckghchmpaaDoorW.PrintMore Go.Proofs.YtondbckghchmpaaDoor.Pl Go.Proofs.YtondbckghchmpaaDoor.PA

theorem cleans_nms (l : List Int) (h : okB l = true) : l = nms (u8s l) := by
  unfold nms u8s
  rw [List.map_map]
  conv => lhs; rw [← List.map_id l]
  refine List.map_congr_left (fun x hx => ?_)
  have := List.all_eq_true.1 h x hx
  simp only [decide_eq_true_eq] at this
  show x = ((x.toNat.toUInt8.toNat : Nat) : Int)
  rw [Nat.toUInt8, UInt8.toNat_ofNat']
  omega
theorem cleans_l (s : List UInt8) (hs : s.length ≤ 3000) (hf : text_Clean.f (nms s) = some (B (clean s))) (r : List Int) (hr : r.length ≤ 10000) : ∀ (d i : Nat), i + d = r.length → Ev (fun k => incipitlaw01_TextCleans.l0 k (nms s) true r r (i : Int)) true := by
  intro d
  induction d with
  | zero =>
    intro i hi
    refine Ev.step (f := fun k => (incipitref01_Clean.f k (nms s)).bind fun t => some ((B (clean s)).toList == t.toList)) (fun k => ?_) (Ev.bind (rclean_ev s (by omega)) ?_)
    · simp only [incipitlaw01_TextCleans.l0]
      rw [if_neg (by omega), if_pos trivial, hf, Option.bind_some]
    · exact Ev.congr (fun k => by rw [beq_self_eq_true]) (Ev.now _)
  | succ d ih =>
    intro i hi
    refine Ev.step (fun k => ?_) (ih (i + 1) (by omega))
    simp only [incipitlaw01_TextCleans.l0]
    rw [if_pos (by omega), if_pos (by omega), if_pos (by omega), if_pos trivial, w64 (by omega) (by omega)]
    rfl
theorem TextCleans : ∀ (l0 : List Int), l0.length ≤ 140737488351232 → (∀ x ∈ l0, (Lit.int .u8 x).wf = true) → ∃ k, PA.incipitlaw01_TextCleans.f k l0 = some true := by
  intro l0 _ h
  have hok : okB l0 = true := by
    unfold okB
    rw [List.all_eq_true]
    intro x hx
    have := h x hx
    simp only [Lit.wf, Bool.and_eq_true, decide_eq_true_eq] at this
    have e1 : IntKind.min .u8 = 0 := by decide
    have e2 : IntKind.max .u8 = 255 := by decide
    rw [e1, e2] at this
    exact decide_eq_true (by omega)
  apply Ev.rounds
  have hcf : l0.length ≤ 40000000000000 → text_Clean.f l0 = some (B (clean (u8s l0))) := fun hl => by
    unfold text_Clean.f
    rw [if_pos ⟨hok, hl⟩]
    rfl
  have hl := cleans_nms l0 hok
  obtain ⟨s, hs⟩ : ∃ s, u8s l0 = s := ⟨_, rfl⟩
  rw [hs] at hl hcf
  subst hl
  unfold PA.incipitlaw01_TextCleans.f
  refine Ev.bind awake_ev ?_
  by_cases h3 : ((nms s).length : Int) > 3000
  · exact Ev.congr (fun k => by rw [if_pos h3]) (Ev.now _)
  · have h3' := h3
    rw [nms_len] at h3'
    have hc := clean_le s
    have hch := chars_clean s
    have e1 : text_Runes.f (strOfNums (nms s)) = some (chars (clean s)) := by
      unfold text_Runes.f
      rw [nms_str, if_pos (by rw [B_size]; omega), B_data, rns_chars]
    have e2 : Ev (fun k => incipitref01_Runes.f k (strOfNums (nms s))) (chars (clean s)) := by
      obtain ⟨K, hK⟩ := rclean_ev s (by omega)
      refine ⟨max K 7, fun k hk => ?_⟩
      show incipitref01_Runes.f k (strOfNums (nms s)) = _
      unfold incipitref01_Runes.f
      rw [nms_str, B_data, if_pos ⟨by rw [B_size]; omega, by omega, hK k (by omega)⟩]
    refine Ev.congr (f := fun k => (incipitref01_Runes.f k (strOfNums (nms s))).bind _) (fun k => by rw [if_neg h3, e1, Option.bind_some]) (Ev.bind e2 ?_)
    refine Ev.congr (fun k => by rw [if_pos rfl]; rfl) (cleans_l s (by omega) (hcf (by rw [nms_len]; omega)) (chars (clean s)) (by have := hch.2.1; omega) (chars (clean s)).length 0 (Nat.zero_add _))
end Go.Proofs.YtondbckghchmpaaDoor.Pure
