/-
  Plain functions for the layer text: what Join, Clean and Runes compute, on lists of bytes. No condition.
-/
import Derived.Lib.DecodeN
import Derived.Shelf.Unicode.DecodeSlow
namespace Go.Proofs.YtondbckghchmpaaDoor.Pl
/-- All of a list's texts, one LF behind each. -/
def joinB (l : List ByteArray) : List UInt8 := l.flatMap fun s => s.data.toList ++ [10]
theorem joinB_take_succ (l : List ByteArray) (k : Nat) (h : k < l.length) : joinB (l.take (k + 1)) = joinB (l.take k) ++ (l[k].data.toList ++ [10]) := by
  unfold joinB
  rw [List.take_succ_eq_append_getElem h, List.flatMap_append, List.flatMap_cons, List.flatMap_nil, List.append_nil]
theorem joinB_take_le (l : List ByteArray) (k : Nat) : (joinB (l.take k)).length ≤ (joinB l).length := by
  have h := congrArg joinB (List.take_append_drop k l)
  have h2 : joinB (l.take k ++ l.drop k) = joinB (l.take k) ++ joinB (l.drop k) := List.flatMap_append
  rw [h2] at h
  rw [← h, List.length_append]
  omega

/-- Numbers as bytes. -/
def u8s (l : List Int) : List UInt8 := l.map fun x => x.toNat.toUInt8
def okB (l : List Int) : Bool := l.all fun x => decide (0 ≤ x ∧ x < 256)
/-- The decoder's answer at a list's head: the character and its length. -/
def dec (l : List UInt8) : Nat × Nat := Lib.decodeGo ⟨l.toArray⟩
/-- Clean, by at most so many steps. -/
def cleanF : Nat → List UInt8 → List UInt8
  | 0, _ => []
  | _ + 1, [] => []
  | f + 1, x :: t => if x = 0 ∨ ((dec (x :: t)).2 = 1 ∧ 128 ≤ x.toNat) then 239 :: 191 :: 189 :: cleanF f t else (x :: t).take (dec (x :: t)).2 ++ cleanF f ((x :: t).drop (dec (x :: t)).2)
def clean (l : List UInt8) : List UInt8 := cleanF l.length l

theorem dn_cont (n b0 b1 b2 b3 : Nat) : (1 < (Lib.decodeN n b0 b1 b2 b3).2 → 1 < n ∧ b1 / 64 = 2) ∧ (2 < (Lib.decodeN n b0 b1 b2 b3).2 → 2 < n ∧ b2 / 64 = 2) ∧ (3 < (Lib.decodeN n b0 b1 b2 b3).2 → 3 < n ∧ b3 / 64 = 2) ∧ (Lib.decodeN n b0 b1 b2 b3).2 ≤ 4 ∧ 1 ≤ (Lib.decodeN n b0 b1 b2 b3).2 := by
  unfold Lib.decodeN
  split
  · simp
  · split
    · rename_i h
      split <;> simp [h.2.1, h.2.2]
    · split
      · rename_i h
        split <;> simp [h.2.1.1, h.2.1.2, h.2.2.1, h.2.2.2]
      · split
        · rename_i h
          split <;> simp [h.2.1.1, h.2.1.2, h.2.2.1.1, h.2.2.1.2, h.2.2.2.1, h.2.2.2.2]
        · simp
theorem get_list (l : List UInt8) (i : Nat) : (ByteArray.mk l.toArray).get! i = l.getD i 0 := by
  show l.toArray[i]! = l.getD i 0
  simp [List.getD_eq_getElem?_getD]
  rfl
theorem dec_eq (l : List UInt8) (h : l ≠ []) : dec l = Lib.decodeN l.length (l.getD 0 0).toNat (l.getD 1 0).toNat (l.getD 2 0).toNat (l.getD 3 0).toNat := by
  have h0 : (ByteArray.mk l.toArray).size ≠ 0 := by
    show l.toArray.size ≠ 0
    simpa using h
  unfold dec Lib.decodeGo
  rw [if_neg h0, Lib.decode_at, get_list, get_list, get_list, get_list]
  rfl
theorem dec_len (l : List UInt8) (h : l ≠ []) : 1 ≤ (dec l).2 ∧ (dec l).2 ≤ l.length := by
  rw [dec_eq l h]
  obtain ⟨a1, a2, a3, a4, a5⟩ := dn_cont l.length (l.getD 0 0).toNat (l.getD 1 0).toNat (l.getD 2 0).toNat (l.getD 3 0).toNat
  have : 0 < l.length := List.length_pos_iff.2 h
  omega
theorem cleanF_more : ∀ (f g : Nat) (l : List UInt8), l.length ≤ f → l.length ≤ g → cleanF f l = cleanF g l
  | 0, g, l, hf, hg => by
    have : l = [] := List.length_eq_zero_iff.1 (by omega)
    subst this
    cases g <;> rfl
  | f + 1, 0, l, hf, hg => by
    have : l = [] := List.length_eq_zero_iff.1 (by omega)
    subst this
    rfl
  | f + 1, g + 1, [], hf, hg => rfl
  | f + 1, g + 1, x :: t, hf, hg => by
    have hd := dec_len (x :: t) (by simp)
    unfold cleanF
    simp only [List.length_cons] at hf hg hd
    rw [cleanF_more f g t (by omega) (by omega), cleanF_more f g ((x :: t).drop (dec (x :: t)).2) (by simp; omega) (by simp; omega)]
theorem clean_bad (x : UInt8) (t : List UInt8) (h : x = 0 ∨ ((dec (x :: t)).2 = 1 ∧ 128 ≤ x.toNat)) : clean (x :: t) = [239, 191, 189] ++ clean t := by
  show cleanF (t.length + 1) (x :: t) = _
  rw [cleanF, if_pos h]
  rfl
theorem clean_good (x : UInt8) (t : List UInt8) (h : ¬ (x = 0 ∨ ((dec (x :: t)).2 = 1 ∧ 128 ≤ x.toNat))) : clean (x :: t) = (x :: t).take (dec (x :: t)).2 ++ clean ((x :: t).drop (dec (x :: t)).2) := by
  have hd := dec_len (x :: t) (by simp)
  simp only [List.length_cons] at hd
  show cleanF (t.length + 1) (x :: t) = _
  rw [cleanF, if_neg h]
  congr 1
  exact cleanF_more _ _ _ (by simp; omega) (Nat.le_refl _)
theorem clean_le (l : List UInt8) : (clean l).length ≤ 3 * l.length := by
  suffices ∀ f (l : List UInt8), (cleanF f l).length ≤ 3 * l.length from this _ l
  intro f
  induction f with
  | zero => intro l; simp [cleanF]
  | succ f ih =>
    intro l
    cases l with
    | nil => simp [cleanF]
    | cons x t =>
      have hd := dec_len (x :: t) (by simp)
      unfold cleanF
      split
      · have := ih t; simp; omega
      · have := ih ((x :: t).drop (dec (x :: t)).2)
        simp only [List.length_append, List.length_take, List.length_drop, List.length_cons] at this hd ⊢
        omega
end Go.Proofs.YtondbckghchmpaaDoor.Pl
