/-
  The reference's lines are the program's; the document's examples (awake).
-/
import Derived.Test.YtondbckghchmpaaDoorPLines
import Derived.KernelRfl
namespace Go.Proofs.YtondbckghchmpaaDoor.Pl
open Go.RowKit Go.Proofs.YtondbckghchmpaaDoorW.PrintWords Go.Proofs.YtondbckghchmpaaDoorW.PrintMore

theorem mn_le {a b : Int} (h : a ≤ b) : mn a b = a := by unfold mn; omega
theorem brk_get (l : List UInt8) (i : Nat) (h : i < (brk l).1.length) : ∃ hl : i < l.length, l[i]'hl ≠ 10 ∧ l[i]'hl ≠ 13 := by
  obtain ⟨h1, h2⟩ := brk_spec l
  have hl : i < l.length := Nat.lt_of_lt_of_le h (brk_len1 l)
  have e : (brk l).1[i]'h = l[i]'hl := by
    rcases h2 with ⟨a1, _, _⟩ | ⟨hh, a1, _, _⟩
    · simp only [a1]
    · have := List.getElem_take (xs := l) (i := i) (j := (brk l).1.length) (h := by rw [a1]; exact h)
      rw [← this]
      simp only [a1]
  exact ⟨hl, by rw [← e]; exact h1 _ (List.getElem_mem h)⟩
theorem rl1 (l : List UInt8) (h0 : l ≠ []) (hl : l.length ≤ 4294967280) (acc : List ByteArray) (ha : acc.length < 8796093022208) (r : List ByteArray)
    (hr : Ev (fun k => PA.incipitref01_Lines.l0 k (B (brk l).2) (acc ++ [B (brk l).1])) r) :
    ∀ (d i : Nat), i + d = (brk l).1.length → Ev (fun k => PA.incipitref01_Lines.l1 k (B l) acc (i : Int)) r := by
  have hb1 := brk_len1 l
  intro d
  induction d with
  | zero =>
    intro i hi
    obtain ⟨_, h⟩ := brk_spec l
    have hi' : i = (brk l).1.length := by omega
    refine Ev.step (f := fun k => PA.incipitref01_Lines.l0 k (B (brk l).2) (acc ++ [B (brk l).1])) (fun k => ?_) hr
    simp only [PA.incipitref01_Lines.l1]
    rcases h with ⟨a1, a2, a3⟩ | ⟨h, a1, a2, a3⟩
    · rw [a1] at hi'
      have hpos := List.length_pos_iff.2 h0
      rw [if_neg (by rw [B_size]; omega), if_pos (by omega), if_pos (by rw [B_size]; omega), if_pos ha, w64 (by omega) (by omega), B_size, if_neg (by omega)]
      have hm : mn ((i : Int) + 1) (l.length : Int) = (l.length : Int) := by unfold mn; omega
      rw [hm, if_pos (by omega), if_pos (by omega), Int.toNat_natCast, Int.toNat_natCast, B_from l _ _ rfl, B_to, hi', List.take_length, List.drop_length, a1, a2]
    · subst hi'
      have e10 : ((l[(brk l).1.length].toNat : Int) = 10) ↔ l[(brk l).1.length] = 10 := u8_eq _ 10 (by omega)
      have e13 : ((l[(brk l).1.length].toNat : Int) = 13) ↔ l[(brk l).1.length] = 13 := u8_eq _ 13 (by omega)
      rw [if_pos (by rw [B_size]; omega), if_pos (by omega), B_bt l _ h, B_size]
      rcases a3 with ⟨b1, b2⟩ | ⟨b1, b3⟩
      · have hw : wrap64 (((brk l).1.length : Int) + 1) = ((brk l).1.length : Int) + 1 := w64 (by omega) (by omega)
        have hm : mn (((brk l).1.length : Int) + 1) (l.length : Int) = ((brk l).1.length : Int) + 1 := mn_le (by omega)
        have hn : ¬ ((l[(brk l).1.length].toNat : Int) = 13) := fun h => by have := e13.1 h; rw [b1] at this; cases this
        rw [if_pos (e10.2 b1), if_pos (by omega), if_pos ha]
        simp only [Option.bind_some, hw, hm]
        have hfin : PA.incipitref01_Lines.l0 k ((B l).extract (((brk l).1.length : Int) + 1).toNat l.length) (acc ++ [(B l).extract 0 (((brk l).1.length : Int)).toNat]) = PA.incipitref01_Lines.l0 k (B (brk l).2) (acc ++ [B (brk l).1]) := by
          rw [Int.toNat_natCast, show (((brk l).1.length : Int) + 1).toNat = (brk l).1.length + 1 by omega, B_from l _ _ rfl, B_to, a1, ← b2]
        by_cases h2 : ((brk l).1.length : Int) + 1 < (l.length : Int)
        · rw [if_pos h2, if_neg hn, if_pos (by omega), if_pos (by omega)]
          exact hfin
        · rw [if_neg h2, if_pos (by omega), if_pos (by omega)]
          exact hfin
      · have hw : wrap64 (((brk l).1.length : Int) + 1) = ((brk l).1.length : Int) + 1 := w64 (by omega) (by omega)
        have hw2 : wrap64 (((brk l).1.length : Int) + 1 + 1) = ((brk l).1.length : Int) + 1 + 1 := w64 (by omega) (by omega)
        have hm : mn (((brk l).1.length : Int) + 1) (l.length : Int) = ((brk l).1.length : Int) + 1 := mn_le (by omega)
        have hn10 : ¬ ((l[(brk l).1.length].toNat : Int) = 10) := fun h => by have := e10.1 h; rw [b1] at this; cases this
        have ha1 : (B l).extract 0 (((brk l).1.length : Int)).toNat = B (brk l).1 := by rw [Int.toNat_natCast, B_to, a1]
        rw [if_neg hn10, if_pos (e13.2 b1), if_pos (by omega), if_pos ha]
        simp only [Option.bind_some, hw, hw2, hm, ha1]
        rcases b3 with ⟨h2, c1, c2⟩ | ⟨c1, c2⟩
        · have f10 : ((l[(brk l).1.length + 1].toNat : Int) = 10) ↔ l[(brk l).1.length + 1] = 10 := u8_eq _ 10 (by omega)
          have hbt : bt (B l) (((brk l).1.length : Int) + 1) = ((l[(brk l).1.length + 1]'h2).toNat : Int) := B_bt l ((brk l).1.length + 1) h2
          have hm2 : mn (((brk l).1.length : Int) + 1 + 1) (l.length : Int) = ((brk l).1.length : Int) + 1 + 1 := mn_le (by omega)
          have hfin : (B l).extract (((brk l).1.length : Int) + 1 + 1).toNat l.length = B (brk l).2 := by
            rw [show (((brk l).1.length : Int) + 1 + 1).toNat = (brk l).1.length + 2 by omega, B_from l _ _ rfl, ← c2]
          rw [if_pos (by omega), if_pos (by omega), hbt, if_pos (f10.2 c1), hm2, if_pos (by omega), if_pos (by omega), hfin]
        · have hfin : (B l).extract (((brk l).1.length : Int) + 1).toNat l.length = B (brk l).2 := by
            rw [show (((brk l).1.length : Int) + 1).toNat = (brk l).1.length + 1 by omega, B_from l _ _ rfl, ← c2]
          by_cases h2 : (brk l).1.length + 1 < l.length
          · have f10 : ((l[(brk l).1.length + 1].toNat : Int) = 10) ↔ l[(brk l).1.length + 1] = 10 := u8_eq _ 10 (by omega)
            have hbt : bt (B l) (((brk l).1.length : Int) + 1) = ((l[(brk l).1.length + 1]'h2).toNat : Int) := B_bt l ((brk l).1.length + 1) h2
            rw [if_pos (by omega), if_pos (by omega), hbt, if_neg (fun h => c1 h2 (f10.1 h)), if_pos (by omega), if_pos (by omega), hfin]
          · rw [if_neg (by omega), if_pos (by omega), if_pos (by omega), hfin]
  | succ d ih =>
    intro i hi
    obtain ⟨hl', g1, g2⟩ := brk_get l i (by omega)
    have e10 : ((l[i].toNat : Int) = 10) ↔ l[i] = 10 := u8_eq _ 10 (by omega)
    have e13 : ((l[i].toNat : Int) = 13) ↔ l[i] = 13 := u8_eq _ 13 (by omega)
    refine Ev.step (f := fun k => PA.incipitref01_Lines.l1 k (B l) acc ((i + 1 : Nat) : Int)) (fun k => ?_) (ih (i + 1) (by omega))
    simp only [PA.incipitref01_Lines.l1]
    rw [if_pos (by rw [B_size]; omega), if_pos (by omega), B_bt l i hl', if_neg (fun h => g1 (e10.1 h)), if_neg (fun h => g2 (e13.1 h)), w64 (by omega) (by omega)]
    exact congrArg (PA.incipitref01_Lines.l1 k (B l) acc) (by omega)
theorem rl0 : ∀ (n : Nat) (l : List UInt8) (acc : List ByteArray), l.length ≤ n → l.length ≤ 4294967280 → acc.length + l.length < 8796093022208 →
    Ev (fun k => PA.incipitref01_Lines.l0 k (B l) acc) (acc ++ (lines l).map B) := by
  intro n
  induction n with
  | zero =>
    intro l acc h1 h2 h3
    have : l = [] := List.length_eq_zero_iff.1 (by omega)
    subst this
    refine Ev.step (f := fun _ => some acc) (fun k => ?_) (by rw [lines_nil]; simpa using Ev.now acc)
    simp only [PA.incipitref01_Lines.l0]
    rw [if_neg (by rw [B_size]; simp)]
  | succ n ih =>
    intro l acc h1 h2 h3
    by_cases h0 : l = []
    · subst h0
      refine Ev.step (f := fun _ => some acc) (fun k => ?_) (by rw [lines_nil]; simpa using Ev.now acc)
      simp only [PA.incipitref01_Lines.l0]
      rw [if_neg (by rw [B_size]; simp)]
    · have hb := brk_len l h0
      have hp := List.length_pos_iff.2 h0
      refine Ev.step (f := fun k => PA.incipitref01_Lines.l1 k (B l) acc ((0 : Nat) : Int)) (fun k => ?_) ?_
      · simp only [PA.incipitref01_Lines.l0]
        rw [if_pos (by rw [B_size]; omega)]
        exact congrArg (PA.incipitref01_Lines.l1 k (B l) acc) (by omega)
      · have := ih (brk l).2 (acc ++ [B (brk l).1]) (by omega) (by omega) (by simp; omega)
        refine rl1 l h0 h2 acc (by omega) _ ?_ (brk l).1.length 0 (by omega)
        rw [lines_cons l h0, List.map_cons]
        simpa using this
theorem lines_ref (l : List UInt8) (h : l.length ≤ 4294967280) : Ev (fun k => PA.incipitref01_Lines.f k (B l)) ((lines l).map B) := by
  have := rl0 l.length l [] (Nat.le_refl _) h (by simp; omega)
  simpa [PA.incipitref01_Lines.f] using this

theorem clean_ex : PA.text_Clean.f [65, 255, 0] = some (B [65, 239, 191, 189, 239, 191, 189]) := by kernel_rfl
theorem awake_ev : Ev (fun k => PA.incipitlaw01_awake.f k) true := by
  refine Ev.congr (f := fun k => (PA.text_Lines.f k (B [97, 13, 10, 10, 98])).bind fun t => (PA.incipitlaw01_same.f k t [B [97], B [], B [98]]).bind fun u => if u = true then some true else some false) (fun k => ?_) ?_
  · unfold PA.incipitlaw01_awake.f
    rw [clean_ex]
    simp only [Option.bind_some]
    rw [B_toList, if_pos rfl, show (⟨#[32, 9]⟩ : ByteArray) = B [32, 9] from rfl, blank_f [32, 9] (by decide)]
    simp only [Option.bind_some]
    rw [if_pos (by decide), join_f [⟨#[97]⟩] (by decide)]
    simp only [Option.bind_some]
    rw [B_toList]
    rfl
  · refine Ev.bind (a := [B [97], B [], B [98]]) (lines_f [97, 13, 10, 10, 98] (by decide)) ?_
    refine Ev.bind (a := true) (same_f [B [97], B [], B [98]] (by simp)) ?_
    exact Ev.now true
end Go.Proofs.YtondbckghchmpaaDoor.Pl
