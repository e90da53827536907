/-
  Plain functions for the layer column: how wide a line's blanks are, and what is left without some columns. No condition.
-/
namespace Go.Proofs.YtjjpfkfdcbipjaaDoor.Pl
/-- How wide a byte is at a column; 0: it is none of blanks. -/
def wideB (x : UInt8) (col : Nat) : Nat := if x = 9 then 4 - col % 4 else if x = 32 then 1 else 0
/-- How many columns, and bytes, a line's blanks are. -/
def ind : List UInt8 → Nat → Nat × Nat
  | [], _ => (0, 0)
  | x :: t, col => if wideB x col = 0 then (0, 0) else (wideB x col + (ind t (col + wideB x col)).1, (ind t (col + wideB x col)).2 + 1)
theorem wideB_le (x : UInt8) (col : Nat) : wideB x col ≤ 4 := by unfold wideB; split <;> (try split) <;> omega
theorem ind_le : ∀ (l : List UInt8) (col : Nat), (ind l col).2 ≤ l.length ∧ (ind l col).1 ≤ 4 * (ind l col).2 ∧ (ind l col).2 ≤ (ind l col).1
  | [], _ => by simp [ind]
  | x :: t, col => by
    have ih := ind_le t (col + wideB x col)
    have := wideB_le x col
    unfold ind
    split
    · simp
    · simp only [List.length_cons]
      omega
/-- Without some columns: what is cut of a tab, how many columns are left to take, the column, how many bytes are gone. -/
def skp : List UInt8 → Nat → Nat → Nat × Nat × Nat × Nat
  | [], col, n => (0, n, col, 0)
  | x :: t, col, n => if wideB x col = 0 then (0, n, col, 0) else if n < wideB x col then (wideB x col, n, col, 0) else
      ((skp t (col + wideB x col) (n - wideB x col)).1, (skp t (col + wideB x col) (n - wideB x col)).2.1, (skp t (col + wideB x col) (n - wideB x col)).2.2.1, (skp t (col + wideB x col) (n - wideB x col)).2.2.2 + 1)
theorem skp_le : ∀ (l : List UInt8) (col n : Nat), (skp l col n).2.2.2 ≤ l.length ∧ (skp l col n).1 ≤ 4 ∧ (skp l col n).2.1 ≤ n ∧ (skp l col n).2.2.1 + (skp l col n).2.1 = col + n ∧
    ((skp l col n).1 ≠ 0 → (skp l col n).2.2.2 < l.length ∧ (skp l col n).2.1 < (skp l col n).1)
  | [], col, n => by simp [skp]
  | x :: t, col, n => by
    have ih := skp_le t (col + wideB x col) (n - wideB x col)
    have := wideB_le x col
    unfold skp
    split
    · simp
    · split
      · simp only [List.length_cons]
        exact ⟨by omega, by omega, by first | trivial | omega, by first | trivial | omega, fun _ => ⟨by omega, by omega⟩⟩
      · simp only [List.length_cons]
        obtain ⟨h1, h2, h3, h4, h5⟩ := ih
        refine ⟨by omega, h2, by omega, by omega, fun h => ?_⟩
        have := h5 h
        omega
/-- A column that may be. -/
def fromC (c : Int) : Nat := if c < 0 ∨ 1073741824 < c then 0 else c.toNat
theorem fromC_le (c : Int) : fromC c ≤ 1073741824 := by unfold fromC; split <;> omega
theorem fromC_eq (c : Int) : (if c < 0 ∨ 1073741824 < c then 0 else c) = (fromC c : Int) := by unfold fromC; split <;> omega
end Go.Proofs.YtjjpfkfdcbipjaaDoor.Pl
