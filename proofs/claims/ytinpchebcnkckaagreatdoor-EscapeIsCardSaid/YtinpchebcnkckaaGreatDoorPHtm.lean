/-
  Plain words: a text in HTML, and as an address. No condition.
-/
import Derived.Test.YtinpchebcnkckaaGreatDoorPBase
namespace Go.Proofs.YtinpchebcnkckaaGreatDoor.Pl
open Go.RowKit Go.Proofs.YtinpchebcnkckaaGreatDoorW.PrintWords

/-! #### HTML -/
/-- A byte as it stands in HTML. -/
def esc (x : UInt8) : List UInt8 := if x = 38 then [38, 97, 109, 112, 59] else if x = 60 then [38, 108, 116, 59] else if x = 62 then [38, 103, 116, 59] else if x = 34 then [38, 113, 117, 111, 116, 59] else [x]
/-- A text as it stands in HTML. -/
def htm (l : List UInt8) : List UInt8 := l.flatMap esc
theorem htm_nil : htm [] = [] := rfl
theorem htm_cons (x : UInt8) (l : List UInt8) : htm (x :: l) = esc x ++ htm l := by unfold htm; rw [List.flatMap_cons]
theorem htm_append (a b : List UInt8) : htm (a ++ b) = htm a ++ htm b := by unfold htm; rw [List.flatMap_append]
theorem esc_len (x : UInt8) : 1 ≤ (esc x).length ∧ (esc x).length ≤ 6 := by
  unfold esc
  repeat' split
  all_goals simp
theorem htm_len : ∀ l : List UInt8, l.length ≤ (htm l).length ∧ (htm l).length ≤ 6 * l.length
  | [] => by simp [htm]
  | x :: l => by
    have h1 := htm_len l
    have h2 := esc_len x
    rw [htm_cons, List.length_append, List.length_cons]
    omega
/-! #### an address -/
/-- Does a byte stand for itself in an address? -/
def pln (x : UInt8) : Bool := (decide (48 ≤ x.toNat) && decide (x.toNat ≤ 57)) || (decide (97 ≤ x.toNat) && decide (x.toNat ≤ 122)) || (decide (65 ≤ x.toNat) && decide (x.toNat ≤ 90)) || ([33, 35, 36, 37, 40, 41, 42, 43, 44, 45, 46, 47, 58, 59, 61, 63, 64, 95, 126] : List UInt8).contains x
/-- A digit of base 16. -/
def hxd16 (n : Nat) : UInt8 := if n < 10 then UInt8.ofNat (48 + n) else UInt8.ofNat (55 + n)
/-- A byte as it stands in an address. -/
def adr (x : UInt8) : List UInt8 := if x = 38 then [38, 97, 109, 112, 59] else if x = 39 then [38, 35, 51, 57, 59] else if pln x = true then [x] else [37, hxd16 (x.toNat / 16), hxd16 (x.toNat % 16)]
/-- A text as an address. -/
def hrf (l : List UInt8) : List UInt8 := l.flatMap adr
theorem hrf_nil : hrf [] = [] := rfl
theorem hrf_cons (x : UInt8) (l : List UInt8) : hrf (x :: l) = adr x ++ hrf l := by unfold hrf; rw [List.flatMap_cons]
theorem hrf_append (a b : List UInt8) : hrf (a ++ b) = hrf a ++ hrf b := by unfold hrf; rw [List.flatMap_append]
theorem adr_len (x : UInt8) : 1 ≤ (adr x).length ∧ (adr x).length ≤ 6 := by
  unfold adr
  repeat' split
  all_goals simp
theorem hrf_len : ∀ l : List UInt8, l.length ≤ (hrf l).length ∧ (hrf l).length ≤ 6 * l.length
  | [] => by simp [hrf]
  | x :: l => by
    have h1 := hrf_len l
    have h2 := adr_len x
    rw [hrf_cons, List.length_append, List.length_cons]
    omega
/-- Is a byte a sign of HTML? -/
def isS (x : UInt8) : Bool := decide (x = 38) || decide (x = 60) || decide (x = 62) || decide (x = 34)
theorem esc_no (x : UInt8) (h : isS x = false) : esc x = [x] := by
  unfold isS at h
  simp only [Bool.or_eq_false_iff, decide_eq_false_iff_not] at h
  unfold esc
  rw [if_neg h.1.1.1, if_neg h.1.1.2, if_neg h.1.2, if_neg h.2]
theorem htm_no : ∀ l : List UInt8, l.any isS = false → htm l = l
  | [], _ => rfl
  | x :: l, h => by
    rw [List.any_cons, Bool.or_eq_false_iff] at h
    rw [htm_cons, esc_no x h.1, htm_no l h.2]
    rfl
theorem htm_count : ∀ l : List UInt8, (htm l).length = l.length + (l.count 34 * 5 + l.count 62 * 3 + l.count 60 * 3 + l.count 38 * 4)
  | [] => rfl
  | x :: l => by
    have ih := htm_count l
    rw [htm_cons, List.length_append, ih, List.length_cons, List.count_cons, List.count_cons, List.count_cons, List.count_cons]
    unfold esc
    by_cases h1 : x = 38
    · subst h1; simp; omega
    · by_cases h2 : x = 60
      · subst h2; simp; omega
      · by_cases h3 : x = 62
        · subst h3; simp; omega
        · by_cases h4 : x = 34
          · subst h4; simp; omega
          · simp [h1, h2, h3, h4]; omega
theorem any_count : ∀ l : List UInt8, l.any isS = decide (0 < l.count 34 + l.count 62 + l.count 60 + l.count 38)
  | [] => rfl
  | x :: l => by
    rw [List.any_cons, any_count l, List.count_cons, List.count_cons, List.count_cons, List.count_cons]
    unfold isS
    by_cases h1 : x = 38
    · subst h1; simp; omega
    · by_cases h2 : x = 60
      · subst h2; simp; omega
      · by_cases h3 : x = 62
        · subst h3; simp; omega
        · by_cases h4 : x = 34
          · subst h4; simp; omega
          · simp [h1, h2, h3, h4]
theorem htm_take (l : List UInt8) (k : Nat) (h : k < l.length) : htm (l.take (k + 1)) = htm (l.take k) ++ esc l[k] := by
  rw [List.take_succ_eq_append_getElem h, htm_append]
  congr 1
  simp [htm]
theorem htm_take_lt (l : List UInt8) (k : Nat) : (htm (l.take k)).length + (l.length - k) ≤ (htm l).length := by
  have e : htm l = htm (l.take k) ++ htm (l.drop k) := by rw [← htm_append, List.take_append_drop]
  have h2 := (htm_len (l.drop k)).1
  rw [List.length_drop] at h2
  rw [e, List.length_append]
  omega
end Go.Proofs.YtinpchebcnkckaaGreatDoor.Pl
