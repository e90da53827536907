/-
  What the escape layer's functions answer, in plain words. Conditions: sizes where they are said.
-/
import Derived.Test.YtinpchebcnkckaaGreatDoorPEsc
import Derived.Test.YtinpchebcnkckaaGreatDoorPAx1
namespace Go.Proofs.YtinpchebcnkckaaGreatDoor.Pure
open Go.RowKit Go.Proofs.YtinpchebcnkckaaGreatDoorW.PrintWords Go.Proofs.YtinpchebcnkckaaGreatDoorW.PrintMore Go.Proofs.YtinpchebcnkckaaGreatDoor.Pl Go.Proofs.YtinpchebcnkckaaGreatDoor.PA

theorem awake_eq : incipitlaw05_awake.f = some true := by decide +kernel
theorem html_eq (s : List UInt8) (hs : s.length ≤ 1048576) : escape_Html.f (B s) = some (B (htm s)) := by
  unfold escape_Html.f
  rw [if_pos (by rw [B_size]; exact hs), B_data]
theorem href_eq (s : List UInt8) (hs : s.length ≤ 1048576) : escape_Href.f (B s) = some (B (hrf s)) := by
  unfold escape_Href.f
  rw [if_pos (by rw [B_size]; exact hs), B_data]
theorem unesc_eq (s : List UInt8) (hs : s.length ≤ 1048576) : escape_Unescape.f (B s) = some (B (une s)) := by
  unfold escape_Unescape.f
  rw [if_pos (by rw [B_size]; exact hs), B_data]
theorem sign_eq (x : UInt8) : escape_Sign.f (x.toNat : Int) = some (sgn x) := by
  unfold escape_Sign.f sgn class_Punct.f
  have := x.toNat_lt
  by_cases h : x.toNat < 128
  · rw [if_pos (by omega), Option.bind_some, decide_eq_true h, Bool.true_and]
    congr 2
    unfold wrap32
    omega
  · rw [if_neg (by omega), decide_eq_false h, Bool.false_and]
theorem une_len : ∀ (n : Nat) (l : List UInt8), l.length ≤ n → (une l).length ≤ 4 * l.length
  | _, [], _ => Nat.zero_le _
  | 0, x :: t, h => by simp at h
  | n + 1, x :: t, h => by
    have h1 := stp_len (x :: t)
    have h2 := stp_pos (x :: t)
    have h3 := stp_le x t
    rw [List.length_cons] at h
    have ih := une_len n ((x :: t).drop (stp (x :: t)).2) (by rw [List.length_drop, List.length_cons]; omega)
    rw [une_cons, List.length_append]
    rw [List.length_drop] at ih
    omega
theorem byte_ne (x : UInt8) (n : Nat) (h : n < 256) : ¬ ((x.toNat : Int) = (n : Int)) ↔ x ≠ UInt8.ofNat n := by rw [u8_eq x n h]
theorem any_take {p : UInt8 → Prop} {s : List UInt8} {i : Nat} (h : i < s.length) (hp : ∀ x ∈ s.take i, p x) (hx : p s[i]) : ∀ x ∈ s.take (i + 1), p x := by
  intro x hx2
  rw [List.take_succ_eq_append_getElem h, List.mem_append, List.mem_singleton] at hx2
  rcases hx2 with e | e
  · exact hp x e
  · rw [e]; exact hx
end Go.Proofs.YtinpchebcnkckaaGreatDoor.Pure
