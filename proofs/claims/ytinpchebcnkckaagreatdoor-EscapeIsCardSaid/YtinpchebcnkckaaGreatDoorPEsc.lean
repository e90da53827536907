/-
  Plain words for the escape layer: a text in HTML, as an address, without backslashes and references. Condition: none (sizes where they are said).
-/
import Derived.Test.YtinpchebcnkckaaGreatDoorPRd1
import Derived.Test.YtinpchebcnkckaaGreatDoorPHtm
import Derived.Test.YtinpchebcnkckaaGreatDoorGPunct
namespace Go.Proofs.YtinpchebcnkckaaGreatDoor.Pl
open Go.RowKit Go.Proofs.YtinpchebcnkckaaGreatDoorW.PrintWords Go.Proofs.YtinpchebcnkckaaGreatDoor.PA Go.Proofs.YtinpchebcnkckaaGreatDoor.Pure

/-! #### without backslashes and references -/
/-- Is a byte a sign? -/
def sgn (x : UInt8) : Bool := decide (x.toNat < 128) && punct (x.toNat : Int)
/-- What a text begins with, without backslash and reference, and how long it is in the text. -/
def stp : List UInt8 → List UInt8 × Nat
  | [] => ([], 1)
  | x :: t => if x = 92 ∧ ∃ y ∈ t.head?, sgn y = true then (t.take 1, 2) else if 0 < (rdE (x :: t)).2 then ((rdE (x :: t)).1.data.toList, (rdE (x :: t)).2.toNat) else ([x], 1)
theorem stp_cons (x : UInt8) (t : List UInt8) : stp (x :: t) = if x = 92 ∧ ∃ y ∈ t.head?, sgn y = true then (t.take 1, 2) else if 0 < (rdE (x :: t)).2 then ((rdE (x :: t)).1.data.toList, (rdE (x :: t)).2.toNat) else ([x], 1) := rfl
def uneF : Nat → List UInt8 → List UInt8
  | 0, _ => []
  | _ + 1, [] => []
  | n + 1, x :: t => (stp (x :: t)).1 ++ uneF n ((x :: t).drop (stp (x :: t)).2)
/-- A text without backslashes and references. -/
def une (l : List UInt8) : List UInt8 := uneF l.length l
theorem stp_pos (l : List UInt8) : 1 ≤ (stp l).2 := by
  cases l with
  | nil => exact Nat.le_refl _
  | cons x t =>
    rw [stp_cons]
    split
    · exact Nat.le_succ 1
    · split
      · show 1 ≤ (rdE (x :: t)).2.toNat
        omega
      · exact Nat.le_refl _
theorem stp_le (x : UInt8) (t : List UInt8) : (stp (x :: t)).2 ≤ (x :: t).length := by
  rw [stp_cons]
  split
  · rename_i h
    obtain ⟨_, y, hy, _⟩ := h
    cases t with
    | nil => cases hy
    | cons z u => simp
  · split
    · rcases rdE_cases (x :: t) with h | ⟨d, u, he, _, _, hr⟩
      · rename_i h0
        rw [h] at h0
        exact absurd h0 (by decide)
      · rw [hr, he]
        simp only [List.length_cons, List.length_append]
        omega
    · simp
theorem uneF_le : ∀ (n m : Nat) (l : List UInt8), l.length ≤ n → l.length ≤ m → uneF n l = uneF m l
  | n, m, [], _, _ => by cases n <;> cases m <;> rfl
  | 0, m, x :: t, h, _ => by simp at h
  | n + 1, 0, x :: t, _, h => by simp at h
  | n + 1, m + 1, x :: t, h1, h2 => by
    rw [uneF, uneF]
    congr 1
    have := stp_pos (x :: t)
    rw [List.length_cons] at h1 h2
    exact uneF_le n m _ (by rw [List.length_drop, List.length_cons]; omega) (by rw [List.length_drop, List.length_cons]; omega)
theorem une_nil : une [] = [] := rfl
theorem une_cons (x : UInt8) (t : List UInt8) : une (x :: t) = (stp (x :: t)).1 ++ une ((x :: t).drop (stp (x :: t)).2) := by
  have := stp_pos (x :: t)
  unfold une
  rw [List.length_cons, uneF]
  congr 1
  exact uneF_le _ _ _ (by rw [List.length_drop, List.length_cons]; omega) (Nat.le_refl _)
theorem stp_sgn (y : UInt8) (u : List UInt8) (h : sgn y = true) : stp (92 :: y :: u) = ([y], 2) := by
  rw [stp_cons]
  rw [if_pos ⟨rfl, y, rfl, h⟩]
  rfl
theorem rdE_ne (x : UInt8) (t : List UInt8) (h : x ≠ 38) : rdE (x :: t) = (⟨#[]⟩, 0) := by rw [rdE, if_neg h]
theorem stp_one (x : UInt8) (t : List UInt8) (h1 : x = 92 → ∀ y u, t = y :: u → sgn y = false) (h2 : ¬ 0 < (rdE (x :: t)).2) : stp (x :: t) = ([x], 1) := by
  rw [stp_cons]
  rw [if_neg, if_neg h2]
  rintro ⟨e, y, hy, hs⟩
  cases t with
  | nil => cases hy
  | cons z u =>
    obtain rfl := Option.some.inj hy
    rw [h1 e z u rfl] at hs
    cases hs
theorem stp_plain (x : UInt8) (t : List UInt8) (h1 : x ≠ 92) (h2 : x ≠ 38) : stp (x :: t) = ([x], 1) :=
  stp_one x t (fun e => absurd e h1) (by rw [rdE_ne x t h2]; decide)
theorem stp_ref (t : List UInt8) (h : 0 < (rdE (38 :: t)).2) : stp (38 :: t) = ((rdE (38 :: t)).1.data.toList, (rdE (38 :: t)).2.toNat) := by
  rw [stp_cons]
  rw [if_neg (fun e => absurd e.1 (by decide)), if_pos h]
theorem une_plain (x : UInt8) (t : List UInt8) (h1 : x ≠ 92) (h2 : x ≠ 38) : une (x :: t) = x :: une t := by
  rw [une_cons, stp_plain x t h1 h2]
  rfl
theorem une_sgn (y : UInt8) (u : List UInt8) (h : sgn y = true) : une (92 :: y :: u) = y :: une u := by
  rw [une_cons, stp_sgn y u h]
  rfl
theorem une_ref (d u : List UInt8) (x : UInt8) (h : (59 : UInt8) ∉ d) (hb : bdy d = (⟨#[x]⟩, true)) : une (38 :: (d ++ 59 :: u)) = x :: une u := by
  have hr := rdE_at d u h
  rw [hb, if_pos rfl] at hr
  rw [une_cons, stp_ref _ (by rw [hr]; show (0 : Int) < (d.length : Int) + 2; omega), hr]
  simp only []
  have : ((d.length : Int) + 2).toNat = d.length + 1 + 1 := by omega
  rw [this, List.drop_succ_cons]
  congr 2
  simp
theorem sgn_eq : ∀ n : Fin 256, sgn (UInt8.ofNat n.val) = (decide (33 ≤ n.val ∧ n.val ≤ 47 ∨ 58 ≤ n.val ∧ n.val ≤ 64 ∨ 91 ≤ n.val ∧ n.val ≤ 96 ∨ 123 ≤ n.val ∧ n.val ≤ 126)) := by decide +kernel
theorem sgn_iff (x : UInt8) : sgn x = true ↔ (33 ≤ x.toNat ∧ x.toNat ≤ 47 ∨ 58 ≤ x.toNat ∧ x.toNat ≤ 64 ∨ 91 ≤ x.toNat ∧ x.toNat ≤ 96 ∨ 123 ≤ x.toNat ∧ x.toNat ≤ 126) := by
  have h := sgn_eq ⟨x.toNat, x.toNat_lt⟩
  simp only [UInt8.ofNat_toNat] at h
  rw [h, decide_eq_true_iff]
/-! #### there and back -/
theorem une_esc (x : UInt8) (t : List UInt8) (h : x ≠ 92) : une (esc x ++ t) = x :: une t := by
  unfold esc
  split
  · rename_i e
    rw [e]
    exact une_ref [97, 109, 112] t 38 (by decide) (by decide +kernel)
  · split
    · rename_i e
      rw [e]
      exact une_ref [108, 116] t 60 (by decide) (by decide +kernel)
    · split
      · rename_i e
        rw [e]
        exact une_ref [103, 116] t 62 (by decide) (by decide +kernel)
      · split
        · rename_i e
          rw [e]
          exact une_ref [113, 117, 111, 116] t 34 (by decide) (by decide +kernel)
        · rename_i h1 _ _ _
          exact une_plain x t h h1
theorem une_htm : ∀ l : List UInt8, (92 : UInt8) ∉ l → une (htm l) = l
  | [], _ => rfl
  | x :: l, h => by
    rw [List.mem_cons, not_or] at h
    rw [htm_cons, une_esc x _ (fun e => h.1 e.symm), une_htm l h.2]
/-- A text each of whose signs stands behind a backslash. -/
def bsl (l : List UInt8) : List UInt8 := l.flatMap fun x => if sgn x = true then [92, x] else [x]
theorem bsl_cons (x : UInt8) (l : List UInt8) : bsl (x :: l) = (if sgn x = true then [92, x] else [x]) ++ bsl l := by unfold bsl; rw [List.flatMap_cons]
theorem une_bsl : ∀ l : List UInt8, une (bsl l) = l
  | [] => rfl
  | x :: l => by
    rw [bsl_cons]
    by_cases h : sgn x = true
    · rw [if_pos h]
      show une (92 :: x :: bsl l) = _
      rw [une_sgn x _ h, une_bsl l]
    · rw [if_neg h]
      show une (x :: bsl l) = _
      rw [une_plain x _ (fun e => h (by rw [e]; decide +kernel)) (fun e => h (by rw [e]; decide +kernel)), une_bsl l]
theorem une_cut : ∀ a b : List UInt8, (∀ x ∈ a, x ≠ 92 ∧ x ≠ 38) → une (a ++ b) = a ++ une b
  | [], b, _ => rfl
  | x :: a, b, h => by
    have hx := h x (by simp)
    rw [List.cons_append, une_plain x _ hx.1 hx.2, une_cut a b (fun y hy => h y (by simp [hy])), List.cons_append]
theorem htm_self : ∀ l : List UInt8, (∀ x ∈ l, x ≠ 38 ∧ x ≠ 60 ∧ x ≠ 62 ∧ x ≠ 34) → htm l = l
  | [], _ => rfl
  | x :: l, h => by
    have hx := h x (by simp)
    rw [htm_cons, htm_self l (fun y hy => h y (by simp [hy]))]
    unfold esc
    rw [if_neg hx.1, if_neg hx.2.1, if_neg hx.2.2.1, if_neg hx.2.2.2]
    rfl
theorem hrf_self : ∀ l : List UInt8, (∀ x ∈ l, x ≠ 38 ∧ x ≠ 39 ∧ pln x = true) → hrf l = l
  | [], _ => rfl
  | x :: l, h => by
    have hx := h x (by simp)
    rw [hrf_cons, hrf_self l (fun y hy => h y (by simp [hy]))]
    unfold adr
    rw [if_neg hx.1, if_neg hx.2.1, if_pos hx.2.2]
    rfl
end Go.Proofs.YtinpchebcnkckaaGreatDoor.Pl
