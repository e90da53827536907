/-
  Plain functions for the layer auto, second part: what an address is, and what a text's addresses are. Condition: a text of at most 2^30 bytes.
-/
import Derived.Test.YtddmddlaamcpiaaDoorPAuto1
import Derived.Lib.IndexAny
namespace Go.Proofs.YtddmddlaamcpiaaDoor.Pl
open Go.RowKit Go.Proofs.YtddmddlaamcpiaaDoorW.PrintWords Go.Proofs.YtddmddlaamcpiaaDoorW.PrintMore

/-- How many bytes a reference is with which a text ends. -/
def refer (l : List UInt8) : Nat :=
  if Lib.lastIndexByte (B l) 38 < 0 then 0 else if Lib.lastIndexByte (B l) 38 + 2 ≥ l.length then 0
  else if (wl [] (l.drop (Lib.lastIndexByte (B l) 38 + 1).toNat) : Int) = (l.length : Int) - Lib.lastIndexByte (B l) 38 - 2 then ((l.length : Int) - Lib.lastIndexByte (B l) 38).toNat else 0
theorem last_ge (l : List UInt8) (c : Int) : -1 ≤ Lib.lastIndexByte (B l) c := by
  have := Lib.lastIdx_spec (B l) c (B l).size
  unfold Lib.lastIndexByte
  rcases this with ⟨h, _⟩ | ⟨i, _, h, _⟩ <;> omega
theorem last_lt (l : List UInt8) (c : Int) : Lib.lastIndexByte (B l) c < l.length ∨ Lib.lastIndexByte (B l) c = -1 := by
  have := Lib.lastIdx_spec (B l) c (B l).size
  unfold Lib.lastIndexByte
  rw [B_size] at *
  rcases this with ⟨h, _⟩ | ⟨i, _, h, _⟩ <;> omega
theorem refer_ev (l : List UInt8) (hl : l.length ≤ 1073741824) : Ev (fun k => PA.auto_reference.f k (B l)) ((refer l : Nat) : Int) := by
  have hge := last_ge l 38
  have hlt := last_lt l 38
  have e0 : PA.strings_LastIndexByte.f (B l) 38 = some (Lib.lastIndexByte (B l) 38) := by
    unfold PA.strings_LastIndexByte.f
    rw [if_pos (by rw [B_size]; omega)]
  unfold PA.auto_reference.f refer
  generalize Lib.lastIndexByte (B l) 38 = n at *
  rw [e0]
  simp only [Option.bind_some]
  by_cases h1 : n < 0
  · rw [if_pos h1]
    refine Ev.congr (fun k => ?_) (Ev.now _)
    rw [if_pos h1]
    rfl
  · rw [if_neg h1]
    by_cases h2 : n + 2 ≥ (l.length : Int)
    · rw [if_pos h2]
      refine Ev.congr (fun k => ?_) (Ev.now _)
      rw [if_neg h1, B_size]
      rw [w64 (by omega) (by omega), if_pos h2]
      rfl
    · rw [if_neg h2]
      have e1 : (B l).extract (n + 1).toNat (B l).size = B (l.drop (n + 1).toNat) := B_from l _ _ (B_size l)
      refine Ev.congr (f := fun k => (PA.auto_while.f k (B (l.drop (n + 1).toNat)) (B [])).bind fun t115 => if t115 = (l.length : Int) - n - 2 then some ((l.length : Int) - n) else some 0) (fun k => ?_) ?_
      · have q1 : wrap64 ((l.length : Int) - n) = (l.length : Int) - n := w64 (by omega) (by omega)
        have q2 : wrap64 ((l.length : Int) - n - 2) = (l.length : Int) - n - 2 := w64 (by omega) (by omega)
        have q3 : wrap64 (n + 1) = n + 1 := w64 (by omega) (by omega)
        have q4 : wrap64 (n + 2) = n + 2 := w64 (by omega) (by omega)
        rw [if_neg h1, q3, q4, e1, B_size, q1, q2, if_neg h2, if_pos (by omega), if_pos (by omega)]
        rfl
      · refine Ev.bind (while_ev _ [] (by rw [List.length_drop]; omega)) ?_
        by_cases h3 : (wl [] (l.drop (n + 1).toNat) : Int) = (l.length : Int) - n - 2
        · rw [if_pos h3]
          refine Ev.congr (fun k => ?_) (Ev.now _)
          rw [if_pos h3]
          congr 1
          omega
        · rw [if_neg h3]
          refine Ev.congr (fun k => ?_) (Ev.now _)
          rw [if_neg h3]
          rfl
theorem refer_le (l : List UInt8) : refer l ≤ l.length := by
  have hge := last_ge l 38
  unfold refer
  repeat' split
  all_goals omega
/-- What at a text's end is none of an address. -/
def loose : List UInt8 := [63, 33, 46, 44, 58, 42, 95, 126, 39, 34]
def exc (l : List UInt8) (x : UInt8) : Nat := if loose.contains x = true then 1 else if x = 41 ∧ l.count 41 > l.count 40 then 1 else if x = 59 then refer l else 0
theorem exc_ev (l : List UInt8) (hl : l.length ≤ 1073741824) (h0 : 0 < l.length) : Ev (fun k => PA.auto_excess.f k (B l)) ((exc l (l[l.length - 1]'(by omega)) : Nat) : Int) := by
  obtain ⟨x, hx⟩ : ∃ x, l[l.length - 1]'(by omega) = x := ⟨_, rfl⟩
  have e0 : bt (B l) (wrap64 (((B l).size : Int) - 1)) = (x.toNat : Int) := by
    rw [B_size, w64 (by omega) (by omega), show (l.length : Int) - 1 = ((l.length - 1 : Nat) : Int) by omega, B_bt l _ (by omega), hx]
  have h41 : ((x.toNat : Int) = 41) ↔ x = 41 := u8_eq x 41 (by omega)
  have h59 : ((x.toNat : Int) = 59) ↔ x = 59 := u8_eq x 59 (by omega)
  have hib := ib_iff loose x
  have ei : PA.strings_IndexByte.f (⟨#[63, 33, 46, 44, 58, 42, 95, 126, 39, 34]⟩ : ByteArray) (x.toNat : Int) = some (Lib.indexByte loose x) := idx_f loose x
  have ec : ∀ c : UInt8, PA.strings_Count.f (B l) ⟨#[c]⟩ = some (l.count c : Int) := fun c => by
    unfold PA.strings_Count.f
    rw [if_pos (show (⟨#[c]⟩ : ByteArray).size = 1 from rfl), B_data]
    rfl
  rw [hx]
  have hj : ∀ b : Bool, Ev (fun k => PA.auto_excess.j0 k (B l) (x.toNat : Int) b) (if b = true then 1 else if x = 59 then ((refer l : Nat) : Int) else 0) := by
    intro b
    cases b with
    | true =>
      refine Ev.step (f := fun _ => some 1) (fun k => ?_) (by rw [if_pos rfl]; exact Ev.now _)
      simp only [PA.auto_excess.j0, if_true]
    | false =>
      rw [if_neg (by decide)]
      by_cases h : x = 59
      · rw [if_pos h]
        refine Ev.step (f := fun k => (PA.auto_reference.f k (B l)).bind fun t => some t) (fun k => ?_) (Ev.bind (refer_ev l hl) (Ev.now _))
        simp only [PA.auto_excess.j0]
        rw [if_neg (by decide), if_pos (h59.2 h)]
      · rw [if_neg h]
        refine Ev.step (f := fun _ => some 0) (fun k => ?_) (Ev.now _)
        simp only [PA.auto_excess.j0]
        rw [if_neg (by decide), if_neg (fun e => h (h59.1 e))]
  have hs : ((B l).size : Int) = l.length := by rw [B_size]
  unfold PA.auto_excess.f exc
  by_cases h1 : loose.contains x = true
  · rw [if_pos h1]
    refine Ev.congr (fun k => ?_) (Ev.now _)
    rw [e0, if_pos (by rw [hs, w64 (by omega) (by omega)]; omega), if_pos (by rw [hs, w64 (by omega) (by omega)]; omega), ei, Option.bind_some, if_pos (hib.2 h1)]
    rfl
  · rw [if_neg h1]
    by_cases h2 : x = 41
    · have h3 : x ≠ 59 := by subst h2; decide
      have := hj (decide (l.count 41 > l.count 40))
      have e5 : (((if x = 41 ∧ l.count 41 > l.count 40 then 1 else if x = 59 then refer l else 0 : Nat)) : Int) = if decide (l.count 41 > l.count 40) = true then 1 else if x = 59 then ((refer l : Nat) : Int) else 0 := by
        by_cases h4 : l.count 41 > l.count 40
        · rw [if_pos ⟨h2, h4⟩, if_pos (decide_eq_true h4)]; rfl
        · rw [if_neg (fun e => h4 e.2), if_neg (show ¬ decide (l.count 41 > l.count 40) = true by simpa using h4), if_neg h3, if_neg h3]; rfl
      rw [e5]
      refine Ev.congr (fun k => ?_) this
      have e6 : decide ((l.count 41 : Int) > (l.count 40 : Int)) = decide (l.count 41 > l.count 40) := by
        congr 1
        exact propext (by omega)
      rw [e0, if_pos (by rw [hs, w64 (by omega) (by omega)]; omega), if_pos (by rw [hs, w64 (by omega) (by omega)]; omega), ei, Option.bind_some, if_neg (fun e => h1 (hib.1 e)), if_pos (h41.2 h2), ec, Option.bind_some, ec, Option.bind_some, e6]
    · have := hj false
      have e5 : (((if x = 41 ∧ l.count 41 > l.count 40 then 1 else if x = 59 then refer l else 0 : Nat)) : Int) = if false = true then 1 else if x = 59 then ((refer l : Nat) : Int) else 0 := by
        rw [if_neg (fun e => h2 e.1), if_neg (show ¬ false = true by decide)]
        by_cases h4 : x = 59
        · rw [if_pos h4, if_pos h4]
        · rw [if_neg h4, if_neg h4]; rfl
      rw [e5]
      refine Ev.congr (fun k => ?_) this
      rw [e0, if_pos (by rw [hs, w64 (by omega) (by omega)]; omega), if_pos (by rw [hs, w64 (by omega) (by omega)]; omega), ei, Option.bind_some, if_neg (fun e => h1 (hib.1 e)), if_neg (fun e => h2 (h41.1 e))]
end Go.Proofs.YtddmddlaamcpiaaDoor.Pl
