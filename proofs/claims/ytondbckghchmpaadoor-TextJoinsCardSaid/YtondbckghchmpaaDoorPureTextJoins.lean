/-
  The plain law of TextJoins: what its printed function computes is true at every input of the row's form.
-/
import Derived.Test.YtondbckghchmpaaDoorPAx4
import Derived.Test.YtondbckghchmpaaDoorPLines3
namespace Go.Proofs.YtondbckghchmpaaDoor.Pure
open Go.RowKit Go.Proofs.YtondbckghchmpaaDoorW.PrintWords Go.Proofs.YtondbckghchmpaaDoorW.PrintMore Go.Proofs.YtondbckghchmpaaDoor.Pl

theorem okB_wf (l : List Int) (h : ∀ x ∈ l, (Lit.int .u8 x).wf = true) : okB l = true := by
  refine List.all_eq_true.2 (fun x hx => ?_)
  have := h x hx
  simp [Lit.wf, IntKind.min, IntKind.max, IntKind.signed, IntKind.bits] at this
  simp only [decide_eq_true_eq]
  omega
theorem clean_f (l : List Int) (h : okB l = true) (hl : l.length ≤ 40000000000000) : PA.text_Clean.f l = some (B (clean (u8s l))) := by
  unfold PA.text_Clean.f
  rw [if_pos ⟨h, hl⟩]
  rfl
theorem okB_append (a b : List Int) (ha : okB a = true) (hb : okB b = true) : okB (a ++ b) = true := by
  unfold okB at *
  rw [List.all_append, ha, hb]
  rfl
theorem u8s_append (a b : List Int) : u8s (a ++ b) = u8s a ++ u8s b := by simp [u8s]
theorem u8s_len (a : List Int) : (u8s a).length = a.length := by simp [u8s]
theorem tj_j0 (a b : List Int) (ha : okB a = true) (hb : okB b = true) (hal : a.length ≤ 1000) (hbl : b.length ≤ 1000) : Ev (fun k => PA.incipitlaw01_TextJoins.j0 k a b true false) true := by
  have hc := clean_le (u8s a)
  have hd := clean_le (u8s b)
  rw [u8s_len] at hc hd
  have hall : clean (u8s (([] ++ a) ++ [120, 10] ++ b)) = (clean (u8s a) ++ [120, 10]) ++ clean (u8s b) := by
    rw [List.nil_append, u8s_append, u8s_append, show u8s [120, 10] = [120, 10] from rfl, List.append_assoc]
    rw [show ([120, 10] ++ u8s b : List UInt8) = 120 :: 10 :: u8s b from rfl, clean_app 120 (by decide), clean_ascii 120 (by decide) (by decide), clean_ascii 10 (by decide) (by decide)]
    simp
  have hlen : (lines (clean (u8s a) ++ [120, 10])).length ≤ 3002 := by
    have := lines_le (clean (u8s a) ++ [120, 10])
    rw [List.length_append] at this
    simp only [List.length_cons, List.length_nil] at this
    omega
  have hlen2 : (lines (clean (u8s b))).length ≤ 3000 := by have := lines_le (clean (u8s b)); omega
  refine Ev.step (f := fun k => (PA.text_Lines.f k (B ((clean (u8s a) ++ [120, 10]) ++ clean (u8s b)))).bind fun t183 => ((PA.text_Lines.f k (B (clean (u8s a) ++ [120, 10]))).bind fun t189 => (if t189.length < 8796093022208 then ((PA.text_Lines.f k (B (clean (u8s b)))).bind fun t195 => (if t189.length + t195.length < 8796093022208 then ((PA.incipitlaw01_same.f k t183 (t189 ++ t195)).bind fun t201 => (some t201)) else (none))) else (none)))) (fun k => ?_) ?_
  · simp only [PA.incipitlaw01_TextJoins.j0]
    rw [if_neg (by decide)]
    simp only [Option.bind_some]
    rw [if_pos (by simp; omega), if_pos (by simp; omega), if_pos (by simp; omega), clean_f a ha (by omega), clean_f b hb (by omega), clean_f _ (okB_append _ _ (okB_append _ _ (by simpa using ha) (by decide)) hb) (by simp; omega)]
    simp only [Option.bind_some, if_true]
    rw [show (⟨#[120, 10]⟩ : ByteArray) = B [120, 10] from rfl, B_append, B_append, B_size, B_size, B_size, hall, if_pos (by omega), if_pos (by rw [List.length_append]; simp only [List.length_cons, List.length_nil]; omega), if_pos rfl]
    simp
  · refine Ev.bind (lines_f _ (by simp only [List.length_append, List.length_cons, List.length_nil]; omega)) (Ev.bind (lines_f _ (by simp only [List.length_append, List.length_cons, List.length_nil]; omega)) ?_)
    refine Ev.congr (f := fun k => (PA.text_Lines.f k (B (clean (u8s b)))).bind fun t195 => (if ((lines (clean (u8s a) ++ [120, 10])).map B).length + t195.length < 8796093022208 then ((PA.incipitlaw01_same.f k ((lines (clean (u8s a) ++ [120, 10] ++ clean (u8s b))).map B) ((lines (clean (u8s a) ++ [120, 10])).map B ++ t195)).bind fun t201 => (some t201)) else (none))) (fun k => by rw [if_pos (by rw [List.length_map]; omega)]) ?_
    refine Ev.bind (lines_f _ (by omega)) ?_
    refine Ev.congr (f := fun k => (PA.incipitlaw01_same.f k ((lines (clean (u8s a) ++ [120, 10] ++ clean (u8s b))).map B) ((lines (clean (u8s a) ++ [120, 10])).map B ++ (lines (clean (u8s b))).map B)).bind fun t201 => (some t201)) (fun k => by rw [if_pos (by rw [List.length_map, List.length_map]; omega)]) ?_
    rw [lines_app (clean (u8s b)) (clean (u8s a) ++ [120, 10]) (.inr (by simp)), List.map_append]
    exact Ev.bind (same_f _ (by rw [List.length_append, List.length_map, List.length_map]; omega)) (Ev.now true)
theorem TextJoins : ∀ (l0 : List Int) (l1 : List Int), l0.length ≤ 140737488351232 → (∀ x ∈ l0, (Lit.int .u8 x).wf = true) → l1.length ≤ 140737488351232 → (∀ x ∈ l1, (Lit.int .u8 x).wf = true) → ∃ k, PA.incipitlaw01_TextJoins.f k l0 l1 = some true := by
  intro a b _ ha _ hb
  apply Ev.rounds
  unfold PA.incipitlaw01_TextJoins.f
  refine Ev.bind awake_ev ?_
  by_cases h1 : (a.length : Int) > 1000
  · refine Ev.step (f := fun _ => some true) (fun k => ?_) (Ev.now true)
    rw [if_pos h1]
    simp only [PA.incipitlaw01_TextJoins.j0, if_true]
  · by_cases h2 : (b.length : Int) > 1000
    · refine Ev.step (f := fun _ => some true) (fun k => ?_) (Ev.now true)
      rw [if_neg h1, decide_eq_true h2]
      simp only [PA.incipitlaw01_TextJoins.j0, if_true]
    · refine Ev.congr (fun k => ?_) (tj_j0 a b (okB_wf a ha) (okB_wf b hb) (by omega) (by omega))
      rw [if_neg h1, decide_eq_false h2]
end Go.Proofs.YtondbckghchmpaaDoor.Pure
