/-
  The contracts of column.from, and of column.blanks with the function that Indent hands it; a line is at most 2^40 bytes.
-/
import Derived.Test.YtjjpfkfdcbipjaaDoorPAx0
import Derived.Test.YtjjpfkfdcbipjaaDoorPBase
import Derived.Test.YtjjpfkfdcbipjaaDoorCol
import Derived.WalkKit
import Derived.BigCall
import Derived.OneCell
import Derived.BigQuiet
import Derived.Deep.QuietTactic
namespace Go.Proofs.YtjjpfkfdcbipjaaDoor.PA
open Go.RowKit Go.Proofs.YtjjpfkfdcbipjaaDoorW.PrintWords Go.Proofs.YtjjpfkfdcbipjaaDoorW.PrintLast Go.Proofs.YtjjpfkfdcbipjaaDoorW.PrintMore Go.Proofs.YtjjpfkfdcbipjaaDoor.Pl
set_option linter.unusedVariables false

theorem indent_fn (wide n : Int) (b : Nat) (W : World) (h : W.heap[b]? = some (.cells #[.int .i64 n] 3 (0, 0))) (h1 : 0 ≤ n) (h2 : n ≤ 9000000000000000000) (h3 : 0 ≤ wide) (h4 : wide ≤ 4) :
    Calls Tryd.prog 21 #[.int .i64 wide, .pointer (some ⟨b, 0, none⟩)] W fun e w' => e = .returned (.bool true) ∧ w' = W.setCell ⟨b, 0, none⟩ (.int .i64 (n + wide)) := by
  have hc := cell_of_one h
  have hf := free_of_one h
  have H := Aside0.mk h
  clear h
  go_enter Tryd.func21, Tryd.ntmps21
  go_wp2
  go_ret
  exact ⟨rfl, rfl⟩
theorem from_fn (col : Int) (W : World) : Calls Tryd.prog 20 #[.int .i64 col] W fun e w' => e = .returned (.int .i64 (if col < 0 ∨ 1073741824 < col then 0 else col)) ∧ w' = W := by
  by_cases h1 : col < 0
  · have q1 : decide (col < 0) = true := decide_eq_true h1
    rw [if_pos (.inl h1)]
    go_enter Tryd.func20, Tryd.ntmps20
    go_wp2
    go_ret
    exact ⟨rfl, rfl⟩
  · have q1 : decide (col < 0) = false := decide_eq_false h1
    by_cases h2 : 1073741824 < col
    · have q2 : decide (1073741824 < col) = true := decide_eq_true h2
      rw [if_pos (.inr h2)]
      clear h1
      go_enter Tryd.func20, Tryd.ntmps20
      go_wp2
      go_ret
      exact ⟨rfl, rfl⟩
    · have q2 : decide (1073741824 < col) = false := decide_eq_false h2
      rw [if_neg (by omega)]
      clear h1 h2
      go_enter Tryd.func20, Tryd.ntmps20
      go_wp2
      go_ret
      exact ⟨rfl, rfl⟩

set_option maxHeartbeats 1000000 in
set_option maxRecDepth 100000 in
theorem blanks_indent (l0 : List UInt8) (col0 : Nat) (b : Nat) (w : World) (hl : l0.length ≤ 1099511627776) (hcol : col0 ≤ 1073741824) (hb : w.heap[b]? = some (.cells #[.int .i64 0] 3 (0, 0))) :
    Calls Tryd.prog 19 #[.string (B l0), .int .i64 col0, .func (.func 21) #[] #[.pointer (some ⟨b, 0, none⟩)]] w
      fun e w' => e = .returned (.string (B (l0.drop (ind l0 col0).2))) ∧ w'.heap[b]? = some (.cells #[.int .i64 ((ind l0 col0).1 : Int)] 3 (0, 0)) ∧ Below b w w' ∧ w'.heap.size = w.heap.size := by
  have HB := Aside0.mk hb
  clear hb
  go_enter Tryd.func19, Tryd.ntmps19
  go_wp2
  go_loopg [0, 1] l0.length (fun g v0 v1 wr => ∃ (l : List UInt8) (col n : Nat), v0 = .string (B l) ∧ v1 = .int .i64 (col : Int) ∧ Aside0 (l.length ≤ g) ∧ Aside0 (l.length ≤ l0.length) ∧ Aside0 (col + 4 * l.length ≤ 1073741824 + 4 * l0.length) ∧ Aside0 (n + 4 * l.length ≤ 4 * l0.length) ∧
    Aside0 (wr.heap[b]? = some (.cells #[.int .i64 (n : Int)] 3 (0, 0))) ∧ Aside0 (Below b w wr) ∧ Aside0 (wr.heap.size = w.heap.size) ∧
    Aside0 (l.drop (ind l col).2 = l0.drop (ind l0 col0).2) ∧ Aside0 (n + (ind l col).1 = (ind l0 col0).1))
  case atStart => exact ⟨l0, col0, 0, rfl, rfl, ⟨Nat.le_refl _⟩, ⟨Nat.le_refl _⟩, ⟨by omega⟩, ⟨by omega⟩, HB, ⟨Below.refl _ _⟩, ⟨rfl⟩, ⟨rfl⟩, ⟨by omega⟩⟩
  case round =>
    obtain ⟨l, col, n, rfl, rfl, HG, HL, HC, HN, HH, HBW, HSZ, HD, HW⟩ := hrel
    clear HB
    cases l with
    | nil =>
      have hs : (B []).toList = [] := B_toList []
      go_wp2
      go_ret
      have e1 := HD.out
      have e2 := HW.out
      simp only [ind, Nat.add_zero, List.drop_nil] at e1 e2
      exact ⟨by rw [← e1]; rfl, by rw [← e2]; exact HH.out, HBW.out, HSZ.out⟩
    | cons x t =>
      have hs : (B (x :: t)).toList = x :: t := B_toList (x :: t)
      have hz : (B (x :: t)).size = t.length + 1 := B_size (x :: t)
      have hi : ∀ h : 0 < (B (x :: t)).size, ((B (x :: t))[0]'h) = x := fun _ => rfl
      have hx : (B (x :: t)).extract 1 (t.length + 1) = B t := B_from (x :: t) 1 _ rfl
      obtain ⟨m, hm⟩ : ∃ m, wideB x col = m := ⟨_, rfl⟩
      have hm4 := wideB_le x col
      rw [hm] at hm4
      have hcl := HC.out
      have hnl := HN.out
      have hgl := HG.out
      have hll := HL.out
      simp only [List.length_cons] at hcl hnl hgl hll
      have hcell := HH.out
      by_cases hbl : m = 0
      · have hx9 : x ≠ 9 := by intro e; subst e; simp only [wideB, if_true] at hm; omega
        have hx32 : x ≠ 32 := by intro e; subst e; simp [wideB] at hm; omega
        have q9 : ((x.toNat : Int) == 9) = false := beq_eq_false_iff_ne.2 (fun e => hx9 ((u8_eq x 9 (by omega)).1 e))
        have q32 : ((x.toNat : Int) == 32) = false := beq_eq_false_iff_ne.2 (fun e => hx32 ((u8_eq x 32 (by omega)).1 e))
        have e1 := HD.out
        have e2 := HW.out
        have e0 : ind (x :: t) col = (0, 0) := by rw [ind, if_pos (by omega)]
        rw [e0] at e1 e2
        have E1 := Aside0.mk e1
        have E2 := Aside0.mk e2
        clear hx9 hx32 hm hm4 hbl e0 e1 e2
        go_wp2
        go_ret
        exact ⟨by rw [← E1.out]; rfl, by rw [← E2.out]; exact HH.out, HBW.out, HSZ.out⟩
      · have e0 : ind (x :: t) col = (m + (ind t (col + m)).1, (ind t (col + m)).2 + 1) := by rw [ind, hm, if_neg hbl]
        have e1 := HD.out
        have e2 := HW.out
        rw [e0] at e1 e2
        simp only [List.drop_succ_cons] at e1 e2
        have E1 := Aside0.mk e1
        have E2 := Aside0.mk e2
        have hq : (((x.toNat : Int) == 9) = true ∧ (4 : Int) - (col : Int) % 4 = (m : Int)) ∨ (((x.toNat : Int) == 9) = false ∧ ((x.toNat : Int) == 32) = true ∧ (1 : Int) = (m : Int)) := by
          by_cases h9 : x = 9
          · subst h9
            simp only [wideB, if_true] at hm
            exact .inl ⟨by decide, by omega⟩
          · by_cases h32 : x = 32
            · subst h32
              simp [wideB] at hm
              exact .inr ⟨by decide, by decide, by omega⟩
            · simp [wideB, h9, h32] at hm
              omega
        clear hm e0 e1 e2 HD HW HG HL HC HN
        rcases hq with ⟨q9, he⟩ | ⟨q9, q32, he⟩
        all_goals
          have HE := Aside0.mk he
          clear he
          go_wp2_with fail
          (try rw [HE.out])
          refine (indent_fn (m : Int) (n : Int) b wr HH.out (by omega) (by omega) (by omega) (by omega)).mono ?_
          rintro e w1 ⟨rfl, rfl⟩
          have H1 := Aside0.mk (one_setCell (u := .int .i64 ((n : Int) + (m : Int))) hcell)
          have HB1 := Aside0.mk (HBW.out.setCell (p := ⟨b, 0, none⟩) (Nat.le_refl _) (.int .i64 ((n : Int) + (m : Int))))
          have hsz1 : (wr.setCell ⟨b, 0, none⟩ (.int .i64 ((n : Int) + (m : Int)))).heap.size = wr.heap.size := by simp [World.setCell]
          have HS1 := Aside0.mk hsz1
          clear hsz1 hcell
          generalize wr.setCell ⟨b, 0, none⟩ (.int .i64 ((n : Int) + (m : Int))) = w1 at H1 HB1 HS1 ⊢
          go_wp2
          go_roundg (gk - 1)
          case measure => omega
          case rel => exact ⟨t, col + m, n + m, rfl, by go_num, ⟨by omega⟩, ⟨by omega⟩, ⟨by omega⟩, ⟨by omega⟩, by simpa using H1, HB1, ⟨HS1.out.trans HSZ.out⟩, E1, ⟨by have := E2.out; omega⟩⟩
end Go.Proofs.YtjjpfkfdcbipjaaDoor.PA
