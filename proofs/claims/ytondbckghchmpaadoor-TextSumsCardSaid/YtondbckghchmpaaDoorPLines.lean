/-
  What the program and the reference of layer text come to, on lists of bytes: lines, join, blank, same. Texts shorter than 2^32.
-/
import Derived.Test.YtondbckghchmpaaDoorPAx1
import Derived.Test.YtondbckghchmpaaDoorPAx2
import Derived.Test.YtondbckghchmpaaDoorPBase
import Derived.Test.YtondbckghchmpaaDoorTxt
namespace Go.Proofs.YtondbckghchmpaaDoor.Pl
open Go.RowKit Go.Proofs.YtondbckghchmpaaDoorW.PrintWords Go.Proofs.YtondbckghchmpaaDoorW.PrintMore

/-- The first line and what stands behind its end. -/
def brk : List UInt8 → List UInt8 × List UInt8
  | [] => ([], [])
  | x :: t => if x = 10 then ([], t) else if x = 13 then ([], if t.head? = some 10 then t.tail else t) else (x :: (brk t).1, (brk t).2)
theorem brk_len : ∀ l : List UInt8, l ≠ [] → (brk l).2.length < l.length
  | [], h => absurd rfl h
  | x :: t, _ => by
    unfold brk
    split
    · simp
    · split
      · simp only
        split
        · simp; omega
        · simp
      · simp only [List.length_cons]
        by_cases ht : t = []
        · subst ht; simp [brk]
        · have := brk_len t ht; omega
theorem brk_len1 : ∀ l : List UInt8, (brk l).1.length ≤ l.length
  | [] => by simp [brk]
  | x :: t => by
    unfold brk
    have := brk_len1 t
    split
    · simp
    · split <;> simp; omega
def linesF : Nat → List UInt8 → List (List UInt8)
  | 0, _ => []
  | f + 1, l => if l = [] then [] else (brk l).1 :: linesF f (brk l).2
def lines (l : List UInt8) : List (List UInt8) := linesF l.length l
theorem linesF_more : ∀ (f g : Nat) (l : List UInt8), l.length ≤ f → l.length ≤ g → linesF f l = linesF g l
  | 0, g, l, hf, hg => by
    have : l = [] := List.length_eq_zero_iff.1 (by omega)
    subst this
    cases g <;> simp [linesF]
  | f + 1, 0, l, hf, hg => by
    have : l = [] := List.length_eq_zero_iff.1 (by omega)
    subst this
    simp [linesF]
  | f + 1, g + 1, l, hf, hg => by
    unfold linesF
    split
    · rfl
    · rename_i h
      have := brk_len l h
      rw [linesF_more f g (brk l).2 (by omega) (by omega)]
theorem lines_nil : lines [] = [] := rfl
theorem lines_cons (l : List UInt8) (h : l ≠ []) : lines l = (brk l).1 :: lines (brk l).2 := by
  have hb := brk_len l h
  have hl : l.length = (l.length - 1) + 1 := by have := List.length_pos_iff.2 h; omega
  unfold lines
  rw [hl, linesF, if_neg h, linesF_more (l.length - 1) (brk l).2.length _ (by omega) (Nat.le_refl _)]

/-- Where the first end stands: no CR and no LF ahead of it. -/
theorem brk_spec : ∀ l : List UInt8, (∀ x ∈ (brk l).1, x ≠ 10 ∧ x ≠ 13) ∧
    ((brk l).1 = l ∧ (brk l).2 = [] ∧ Lib.indexAny l [13, 10] = -1 ∨
     ∃ h : (brk l).1.length < l.length, l.take (brk l).1.length = (brk l).1 ∧ Lib.indexAny l [13, 10] = ((brk l).1.length : Int) ∧
       (l[(brk l).1.length]'h = 10 ∧ (brk l).2 = l.drop ((brk l).1.length + 1) ∨
        l[(brk l).1.length]'h = 13 ∧ ((∃ h2 : (brk l).1.length + 1 < l.length, l[(brk l).1.length + 1]'h2 = 10 ∧ (brk l).2 = l.drop ((brk l).1.length + 2)) ∨
          (∀ h2 : (brk l).1.length + 1 < l.length, l[(brk l).1.length + 1]'h2 ≠ 10) ∧ (brk l).2 = l.drop ((brk l).1.length + 1))))
  | [] => ⟨by simp [brk], .inl ⟨rfl, rfl, rfl⟩⟩
  | x :: t => by
    obtain ⟨ih1, ih2⟩ := brk_spec t
    by_cases h10 : x = 10
    · subst h10
      have e : brk (10 :: t) = ([], t) := by simp [brk]
      rw [e]
      exact ⟨by simp, .inr ⟨by simp, by simp, by simp [Lib.indexAny], .inl ⟨by simp, by simp⟩⟩⟩
    · by_cases h13 : x = 13
      · subst h13
        have e : brk (13 :: t) = ([], if t.head? = some 10 then t.tail else t) := by simp [brk]
        rw [e]
        refine ⟨by simp, .inr ⟨by simp, by simp, by simp [Lib.indexAny], .inr ⟨by simp, ?_⟩⟩⟩
        cases t with
        | nil => exact .inr ⟨by simp, by simp⟩
        | cons y t =>
          by_cases hy : y = 10
          · subst hy
            exact .inl ⟨by simp, by simp, by simp⟩
          · exact .inr ⟨by simp [hy], by simp [hy]⟩
      · have e : brk (x :: t) = (x :: (brk t).1, (brk t).2) := by simp [brk, h10, h13]
        have hc : (([13, 10] : List UInt8).contains x) = false := by simp [h10, h13]
        rw [e]
        refine ⟨?_, ?_⟩
        · intro y hy
          rcases List.mem_cons.1 hy with rfl | hy
          · exact ⟨h10, h13⟩
          · exact ih1 y hy
        · rcases ih2 with ⟨a1, a2, a3⟩ | ⟨h, a1, a2, a3⟩
          · exact .inl ⟨by simp [a1], a2, by simp [Lib.indexAny, h10, h13, a3]⟩
          · refine .inr ⟨by simp; omega, by simp [a1], ?_, ?_⟩
            · have hne : ¬ ((brk t).1.length : Int) = -1 := by omega
              simp [Lib.indexAny, h10, h13, a2, hne]
            · rcases a3 with ⟨b1, b2⟩ | ⟨b1, ⟨h2, b2, b3⟩ | ⟨b2, b3⟩⟩
              · exact .inl ⟨by simpa using b1, by simpa using b2⟩
              · exact .inr ⟨by simpa using b1, .inl ⟨by simp; omega, by simpa using b2, by simpa using b3⟩⟩
              · exact .inr ⟨by simpa using b1, .inr ⟨fun h2 => by simpa using b2 (by simpa using h2), by simpa using b3⟩⟩

theorem prefix_f (l : List UInt8) (p : List UInt8) : PA.strings_HasPrefix.f (B l) (B p) = some (decide (l.take p.length = p)) := by
  unfold PA.strings_HasPrefix.f PA.stringslite_HasPrefix.f
  simp only [B_size]
  by_cases h : (l.length : Int) ≥ (p.length : Int)
  · rw [if_pos h, if_pos (by omega), if_pos (by omega), B_to, B_toList, B_toList, Int.toNat_natCast]
    simp only [Option.bind_some]
    congr 1
    exact Bool.beq_eq_decide_eq _ _
  · rw [if_neg h]
    simp only [Option.bind_some]
    congr 1
    symm
    apply decide_eq_false
    intro e
    have := congrArg List.length e
    rw [List.length_take] at this
    omega
theorem cut_f (l : List UInt8) (hl : l.length ≤ 4294967280) : PA.text_cut.f (B l) = some (B (brk l).1, B (brk l).2) := by
  unfold PA.text_cut.f PA.strings_IndexAny.f
  rw [if_pos ⟨by decide, by decide, by rw [B_size]; exact hl, by decide⟩]
  simp only [Option.bind_some]
  rw [B_data]
  obtain ⟨_, h⟩ := brk_spec l
  rcases h with ⟨a1, a2, a3⟩ | ⟨h, a1, a2, a3⟩
  · rw [a3, if_pos (by omega), a1, a2]
    rfl
  · rw [a2, if_neg (by omega), if_pos (by omega), if_pos (by rw [B_size]; omega)]
    rw [Int.toNat_natCast, B_size, B_from l _ _ rfl]
    rw [show (⟨#[13, 10]⟩ : ByteArray) = B [13, 10] from rfl, prefix_f]
    simp only [Option.bind_some]
    rw [B_to, a1]
    have hd : (l.drop (brk l).1.length).take 2 = l[(brk l).1.length]'h :: (l.drop ((brk l).1.length + 1)).take 1 := by
      rw [List.drop_eq_getElem_cons h]
      rfl
    rw [show ([13, 10] : List UInt8).length = 2 from rfl, hd]
    rcases a3 with ⟨b1, b2⟩ | ⟨b1, ⟨h2, b2, b3⟩ | ⟨b2, b3⟩⟩
    · rw [if_neg (by rw [b1]; simp), if_pos (by rw [w64 (by omega) (by omega)]; omega), if_pos (by rw [w64 (by omega) (by omega)]; omega)]
      rw [w64 (by omega) (by omega), show (((brk l).1.length : Int) + 1).toNat = (brk l).1.length + 1 by omega, B_from l _ _ rfl, ← b2]
    · rw [if_pos (by rw [b1, List.drop_eq_getElem_cons h2, b2]; simp), if_pos (by rw [w64 (by omega) (by omega)]; omega), if_pos (by rw [w64 (by omega) (by omega)]; omega)]
      rw [w64 (by omega) (by omega), show (((brk l).1.length : Int) + 2).toNat = (brk l).1.length + 2 by omega, B_from l _ _ rfl, ← b3]
    · rw [if_neg, if_pos (by rw [w64 (by omega) (by omega)]; omega), if_pos (by rw [w64 (by omega) (by omega)]; omega)]
      · rw [w64 (by omega) (by omega), show (((brk l).1.length : Int) + 1).toNat = (brk l).1.length + 1 by omega, B_from l _ _ rfl, ← b3]
      · by_cases h2 : (brk l).1.length + 1 < l.length
        · have := b2 h2
          rw [b1, List.drop_eq_getElem_cons h2]
          intro e
          have e := of_decide_eq_true e
          injection e with _ e
          injection e with e _
          exact this e
        · rw [List.drop_of_length_le (by omega)]
          simp
theorem lines_f0 : ∀ (n : Nat) (l : List UInt8) (acc : List ByteArray), l.length ≤ n → l.length ≤ 4294967280 → acc.length + l.length < 8796093022208 →
    Ev (fun k => PA.text_Lines.l0 k (B l) acc) (acc ++ (lines l).map B) := by
  intro n
  induction n with
  | zero =>
    intro l acc h1 h2 h3
    have : l = [] := List.length_eq_zero_iff.1 (by omega)
    subst this
    refine Ev.step (f := fun _ => some acc) (fun k => ?_) (by rw [lines_nil]; simpa using Ev.now acc)
    simp only [PA.text_Lines.l0]
    rw [if_pos (by rw [B_toList])]
  | succ n ih =>
    intro l acc h1 h2 h3
    by_cases h0 : l = []
    · subst h0
      refine Ev.step (f := fun _ => some acc) (fun k => ?_) (by rw [lines_nil]; simpa using Ev.now acc)
      simp only [PA.text_Lines.l0]
      rw [if_pos (by rw [B_toList])]
    · have hb := brk_len l h0
      refine Ev.step (f := fun k => PA.text_Lines.l0 k (B (brk l).2) (acc ++ [B (brk l).1])) (fun k => ?_) ?_
      · simp only [PA.text_Lines.l0]
        rw [if_neg (by rw [B_toList]; exact h0), cut_f l h2]
        simp only [Option.bind_some]
        rw [if_pos (by have := List.length_pos_iff.2 h0; omega)]
      · have := ih (brk l).2 (acc ++ [B (brk l).1]) (by omega) (by omega) (by simp; omega)
        rw [lines_cons l h0, List.map_cons]
        simpa using this
theorem lines_f (l : List UInt8) (h : l.length ≤ 4294967280) : Ev (fun k => PA.text_Lines.f k (B l)) ((lines l).map B) := by
  have := lines_f0 l.length l [] (Nat.le_refl _) h (by simp; omega)
  simpa [PA.text_Lines.f] using this

theorem same_f0 (l : List ByteArray) (hl : l.length ≤ 4611686018427387904) : ∀ (d i : Nat), i + d = l.length → Ev (fun k => PA.incipitref01_Same.l0 k l l (i : Int)) true := by
  intro d
  induction d with
  | zero =>
    intro i hi
    refine Ev.step (f := fun _ => some true) (fun k => ?_) (Ev.now true)
    simp only [PA.incipitref01_Same.l0]
    rw [if_neg (by omega)]
  | succ d ih =>
    intro i hi
    refine Ev.step (f := fun k => PA.incipitref01_Same.l0 k l l ((i + 1 : Nat) : Int)) (fun k => ?_) (ih (i + 1) (by omega))
    simp only [PA.incipitref01_Same.l0]
    rw [if_pos (by omega), if_pos (by omega), if_pos (by omega), if_true, w64 (by omega) (by omega)]
    rfl
theorem same_f (l : List ByteArray) (hl : l.length ≤ 4611686018427387904) : Ev (fun k => PA.incipitlaw01_same.f k l l) true := by
  unfold PA.incipitlaw01_same.f PA.incipitref01_Same.f
  simp only [if_true]
  exact Ev.bind (f := fun _ t => some t) (same_f0 l hl l.length 0 (by omega)) (Ev.now true)

/-- A blank or a tab. -/
def bl (x : UInt8) : Bool := decide (x = 32 ∨ x = 9)
theorem blank_ref0 (l : List UInt8) (hl : l.length ≤ 4294967280) : ∀ (d i : Nat), i + d = l.length → Ev (fun k => PA.incipitref01_Blank.l0 k (B l) (i : Int)) ((l.drop i).all bl) := by
  intro d
  induction d with
  | zero =>
    intro i hi
    rw [List.drop_of_length_le (by omega)]
    refine Ev.step (f := fun _ => some true) (fun k => ?_) (Ev.now true)
    simp only [PA.incipitref01_Blank.l0]
    rw [if_neg (by rw [B_size]; omega)]
  | succ d ih =>
    intro i hi
    have hi' : i < l.length := by omega
    have ih := ih (i + 1) (by omega)
    rw [List.drop_eq_getElem_cons hi', List.all_cons]
    have e32 : ((l[i].toNat : Int) = 32) ↔ l[i] = 32 := u8_eq l[i] 32 (by omega)
    have e9 : ((l[i].toNat : Int) = 9) ↔ l[i] = 9 := u8_eq l[i] 9 (by omega)
    by_cases h32 : l[i] = 32
    · refine Ev.step (f := fun k => PA.incipitref01_Blank.l0 k (B l) ((i + 1 : Nat) : Int)) (fun k => ?_) (by simpa [bl, h32] using ih)
      simp only [PA.incipitref01_Blank.l0]
      rw [if_pos (by rw [B_size]; omega), if_pos (by omega), B_bt l i hi', if_pos (e32.2 h32), w64 (by omega) (by omega)]
      rfl
    · by_cases h9 : l[i] = 9
      · refine Ev.step (f := fun k => PA.incipitref01_Blank.l0 k (B l) ((i + 1 : Nat) : Int)) (fun k => ?_) (by simpa [bl, h9] using ih)
        simp only [PA.incipitref01_Blank.l0]
        rw [if_pos (by rw [B_size]; omega), if_pos (by omega), B_bt l i hi', if_neg (fun h => h32 (e32.1 h)), if_pos (e9.2 h9), w64 (by omega) (by omega)]
        rfl
      · have e : bl l[i] = false := by simp [bl, h32, h9]
        rw [e, Bool.false_and]
        refine Ev.step (f := fun _ => some false) (fun k => ?_) (Ev.now false)
        simp only [PA.incipitref01_Blank.l0]
        rw [if_pos (by rw [B_size]; omega), if_pos (by omega), B_bt l i hi', if_neg (fun h => h32 (e32.1 h)), if_neg (fun h => h9 (e9.1 h))]
theorem blank_ref (l : List UInt8) (hl : l.length ≤ 4294967280) : Ev (fun k => PA.incipitref01_Blank.f k (B l)) (l.all bl) := by
  have := blank_ref0 l hl l.length 0 (by omega)
  simpa [PA.incipitref01_Blank.f] using this
theorem dropW_all (p : UInt8 → Bool) : ∀ l : List UInt8, (l.dropWhile p).all p = true → l.all p = true
  | [], h => h
  | x :: t, h => by
    cases hx : p x
    · rw [List.dropWhile_cons_of_neg (by simp [hx]), List.all_cons, hx] at h
      cases h
    · rw [List.dropWhile_cons_of_pos hx] at h
      rw [List.all_cons, hx, Bool.true_and]
      exact dropW_all p t h
theorem dropW_nil (p : UInt8 → Bool) : ∀ l : List UInt8, l.all p = true → l.dropWhile p = []
  | [], _ => rfl
  | x :: t, h => by
    rw [List.all_cons, Bool.and_eq_true] at h
    rw [List.dropWhile_cons_of_pos h.1]
    exact dropW_nil p t h.2
theorem trim_nil (l : List UInt8) : (Lib.trimS l [32, 9] = []) ↔ l.all bl = true := by
  have hc : (fun x : UInt8 => ([32, 9] : List UInt8).contains x) = bl := by funext x; simp [bl]
  unfold Lib.trimS Lib.trimLeftS Lib.trimRightS
  rw [hc]
  constructor
  · intro h
    have h1 : ((l.reverse.dropWhile bl).reverse).all bl = true := by
      refine List.all_eq_true.2 (fun x hx => ?_)
      have h2 := dropW_all bl (l.reverse.dropWhile bl).reverse (by rw [h]; rfl)
      exact List.all_eq_true.1 h2 x hx
    rw [List.all_reverse] at h1
    have h3 := dropW_all bl l.reverse h1
    rwa [List.all_reverse] at h3
  · intro h
    rw [dropW_nil bl l.reverse (by rwa [List.all_reverse])]
    rfl
theorem blank_f (l : List UInt8) (hl : l.length ≤ 4294967280) : PA.text_Blank.f (B l) = some (l.all bl) := by
  unfold PA.text_Blank.f PA.strings_Trim.f
  rw [if_pos ⟨by rw [B_size]; omega, by decide, by decide⟩]
  simp only [Option.bind_some]
  rw [B_data, show (⟨(Lib.trimS l [32, 9]).toArray⟩ : ByteArray) = B (Lib.trimS l [32, 9]) from rfl, B_toList]
  congr 1
  rw [Bool.beq_eq_decide_eq, Bool.eq_iff_iff, decide_eq_true_iff]
  exact trim_nil l

theorem join_ref0 (l : List ByteArray) (hl : (joinB l).length ≤ 140737488355328) (hl2 : l.length ≤ 140737488355328) : ∀ (d i : Nat), i + d = l.length → Ev (fun k => PA.incipitref01_Join.l0 k l (B (joinB (l.take i))) (i : Int)) (B (joinB l)) := by
  intro d
  induction d with
  | zero =>
    intro i hi
    refine Ev.step (f := fun _ => some (B (joinB l))) (fun k => ?_) (Ev.now _)
    simp only [PA.incipitref01_Join.l0]
    rw [if_neg (by omega), List.take_of_length_le (by omega)]
  | succ d ih =>
    intro i hi
    have hi' : i < l.length := by omega
    have hs := joinB_take_succ l i hi'
    have hle := joinB_take_le l (i + 1)
    rw [hs] at hle
    simp only [List.length_append, List.length_cons, List.length_nil] at hle
    refine Ev.step (f := fun k => PA.incipitref01_Join.l0 k l (B (joinB (l.take (i + 1)))) ((i + 1 : Nat) : Int)) (fun k => ?_) (ih (i + 1) (by omega))
    simp only [PA.incipitref01_Join.l0]
    rw [getD_at l i hi', ← B_eta l[i], B_append, show (⟨#[10]⟩ : ByteArray) = B [10] from rfl, B_append, B_size, B_size, B_size]
    rw [if_pos (by omega), if_pos (by omega), if_pos (by omega), if_pos (by simp only [List.length_append]; omega), w64 (by omega) (by omega), hs, List.append_assoc]
    rfl
theorem join_ref (l : List ByteArray) (hl : (joinB l).length ≤ 140737488355328) (hl2 : l.length ≤ 140737488355328) : Ev (fun k => PA.incipitref01_Join.f k l) (B (joinB l)) := by
  have := join_ref0 l hl hl2 l.length 0 (by omega)
  exact this
theorem join_f (l : List ByteArray) (hl : (joinB l).length ≤ 140737488355328) : PA.text_Join.f l = some (B (joinB l)) := by
  unfold PA.text_Join.f
  rw [if_pos hl]
  rfl
end Go.Proofs.YtondbckghchmpaaDoor.Pl
