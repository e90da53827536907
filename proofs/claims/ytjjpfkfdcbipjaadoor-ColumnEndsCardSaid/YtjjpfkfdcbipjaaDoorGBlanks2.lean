/-
  The contract of column.blanks with the function that Skip hands it; a line is at most 2^40 bytes.
-/
import Derived.Test.YtjjpfkfdcbipjaaDoorPAx0
import Derived.Test.YtjjpfkfdcbipjaaDoorPBase
import Derived.Test.YtjjpfkfdcbipjaaDoorCol
import Derived.WalkKit
import Derived.BigCall
import Derived.OneCell
namespace Go.Proofs.YtjjpfkfdcbipjaaDoor.PA
open Go.RowKit Go.Proofs.YtjjpfkfdcbipjaaDoorW.PrintWords Go.Proofs.YtjjpfkfdcbipjaaDoorW.PrintLast Go.Proofs.YtjjpfkfdcbipjaaDoorW.PrintMore Go.Proofs.YtjjpfkfdcbipjaaDoor.Pl
set_option linter.unusedVariables false

/-- Three boxes of whole numbers, one behind the other: the column, what is left to take, what is cut. -/
def Box3 (b : Nat) (col n cut : Int) (W : World) : Prop :=
  W.heap[b]? = some (.cells #[.int .i64 col] 3 (0, 0)) ∧ W.heap[b + 1]? = some (.cells #[.int .i64 n] 3 (0, 0)) ∧ W.heap[b + 2]? = some (.cells #[.int .i64 cut] 3 (0, 0))
theorem one_other {w : World} {b k : Nat} {u : Value} (h : k ≠ b) : (w.setCell ⟨b, 0, none⟩ u).heap[k]? = w.heap[k]? := Below.heap_setCell _ _ _ _ h
theorem skip_no (wide n : Int) (b : Nat) (col cut : Int) (W : World) (h : Box3 b col n cut W) (hlt : n < wide) :
    Calls Tryd.prog 22 #[.int .i64 wide, .pointer (some ⟨b + 1, 0, none⟩), .pointer (some ⟨b + 2, 0, none⟩), .pointer (some ⟨b, 0, none⟩)] W fun e w' => e = .returned (.bool false) ∧ w' = W.setCell ⟨b + 2, 0, none⟩ (.int .i64 wide) := by
  obtain ⟨h1, h2, h3⟩ := h
  have c2 := cell_of_one h2
  have c3 := cell_of_one h3
  have f3 := free_of_one h3
  have q := decide_eq_true hlt
  clear h1 h2 h3 hlt
  go_enter Tryd.func22, Tryd.ntmps22
  go_wp2
  go_ret
  exact ⟨rfl, rfl⟩
theorem skip_yes (wide n : Int) (b : Nat) (col cut : Int) (W : World) (h : Box3 b col n cut W) (hlt : wide ≤ n) (h0 : 0 ≤ wide) (h1 : n ≤ 4611686018427387904) (h2 : 0 ≤ col) (h3 : col ≤ 4611686018427387904) (h4 : wide ≤ 4) :
    Calls Tryd.prog 22 #[.int .i64 wide, .pointer (some ⟨b + 1, 0, none⟩), .pointer (some ⟨b + 2, 0, none⟩), .pointer (some ⟨b, 0, none⟩)] W fun e w' => e = .returned (.bool true) ∧ w' = (W.setCell ⟨b + 1, 0, none⟩ (.int .i64 (n - wide))).setCell ⟨b, 0, none⟩ (.int .i64 (col + wide)) := by
  obtain ⟨g1, g2, g3⟩ := h
  have c1 := cell_of_one g1
  have f1 := free_of_one g1
  have c2 := cell_of_one g2
  have f2 := free_of_one g2
  have q : decide (n < wide) = false := decide_eq_false (by omega)
  clear g1 g2 g3
  go_enter Tryd.func22, Tryd.ntmps22
  go_wp2
  go_ret
  exact ⟨rfl, rfl⟩
theorem box_cut {b : Nat} {col n cut v : Int} {W : World} (h : Box3 b col n cut W) : Box3 b col n v (W.setCell ⟨b + 2, 0, none⟩ (.int .i64 v)) :=
  ⟨(one_other (by omega)).trans h.1, (one_other (by omega)).trans h.2.1, one_setCell h.2.2⟩
theorem box_two {b : Nat} {col n cut u v : Int} {W : World} (h : Box3 b col n cut W) : Box3 b v u cut ((W.setCell ⟨b + 1, 0, none⟩ (.int .i64 u)).setCell ⟨b, 0, none⟩ (.int .i64 v)) := by
  refine ⟨?_, ?_, ?_⟩
  · exact one_setCell (v := .int .i64 col) ((one_other (by omega)).trans h.1)
  · exact (one_other (by omega)).trans (one_setCell h.2.1)
  · exact (one_other (by omega)).trans ((one_other (by omega)).trans h.2.2)

set_option maxHeartbeats 1000000 in
set_option maxRecDepth 100000 in
theorem blanks_skip (l0 : List UInt8) (col0 n0 : Nat) (b : Nat) (w : World) (hl : l0.length ≤ 1099511627776) (hcol : col0 ≤ 1073741824) (hn0 : n0 ≤ 4611686018427387904) (hb : Box3 b col0 n0 0 w) :
    Calls Tryd.prog 19 #[.string (B l0), .int .i64 col0, .func (.func 22) #[] #[.pointer (some ⟨b + 1, 0, none⟩), .pointer (some ⟨b + 2, 0, none⟩), .pointer (some ⟨b, 0, none⟩)]] w
      fun e w' => e = .returned (.string (B (l0.drop (skp l0 col0 n0).2.2.2))) ∧ Box3 b ((skp l0 col0 n0).2.2.1 : Int) ((skp l0 col0 n0).2.1 : Int) ((skp l0 col0 n0).1 : Int) w' ∧ Below b w w' ∧ w'.heap.size = w.heap.size := by
  have HB := Aside0.mk hb
  clear hb
  go_enter Tryd.func19, Tryd.ntmps19
  go_wp2
  go_loopg [0, 1] l0.length (fun g v0 v1 wr => ∃ (l : List UInt8) (col n : Nat), v0 = .string (B l) ∧ v1 = .int .i64 (col : Int) ∧ Aside0 (l.length ≤ g) ∧ Aside0 (l.length ≤ l0.length) ∧ Aside0 (col + 4 * l.length ≤ 1073741824 + 4 * l0.length) ∧ Aside0 (n ≤ n0) ∧
    Aside0 (Box3 b col n 0 wr) ∧ Aside0 (Below b w wr) ∧ Aside0 (wr.heap.size = w.heap.size) ∧
    Aside0 (l.drop (skp l col n).2.2.2 = l0.drop (skp l0 col0 n0).2.2.2) ∧ Aside0 ((skp l col n).1 = (skp l0 col0 n0).1 ∧ (skp l col n).2.1 = (skp l0 col0 n0).2.1 ∧ (skp l col n).2.2.1 = (skp l0 col0 n0).2.2.1))
  case atStart => exact ⟨l0, col0, n0, rfl, rfl, ⟨Nat.le_refl _⟩, ⟨Nat.le_refl _⟩, ⟨by omega⟩, ⟨Nat.le_refl _⟩, HB, ⟨Below.refl _ _⟩, ⟨rfl⟩, ⟨rfl⟩, ⟨rfl, rfl, rfl⟩⟩
  case round =>
    obtain ⟨l, col, n, rfl, rfl, HG, HL, HC, HN, HH, HBW, HSZ, HD, HW⟩ := hrel
    clear HB
    cases l with
    | nil =>
      have hs : (B []).toList = [] := B_toList []
      go_wp2
      go_ret
      obtain ⟨e1, e2, e3⟩ := HW.out
      have e4 := HD.out
      simp only [skp, List.drop_nil] at e1 e2 e3 e4
      exact ⟨by rw [← e4]; rfl, by rw [← e1, ← e2, ← e3]; exact HH.out, HBW.out, HSZ.out⟩
    | cons x t =>
      have hs : (B (x :: t)).toList = x :: t := B_toList (x :: t)
      have hz : (B (x :: t)).size = t.length + 1 := B_size (x :: t)
      have hi : ∀ h : 0 < (B (x :: t)).size, ((B (x :: t))[0]'h) = x := fun _ => rfl
      have hx : (B (x :: t)).extract 1 (t.length + 1) = B t := B_from (x :: t) 1 _ rfl
      obtain ⟨m, hm⟩ : ∃ m, wideB x col = m := ⟨_, rfl⟩
      have hm4 := wideB_le x col
      rw [hm] at hm4
      have hcl := HC.out
      have hnl := HN.out
      have hgl := HG.out
      have hll := HL.out
      simp only [List.length_cons] at hcl hgl hll
      by_cases hbl : m = 0
      · have hx9 : x ≠ 9 := by intro e; subst e; simp only [wideB, if_true] at hm; omega
        have hx32 : x ≠ 32 := by intro e; subst e; simp [wideB] at hm; omega
        have q9 : ((x.toNat : Int) == 9) = false := beq_eq_false_iff_ne.2 (fun e => hx9 ((u8_eq x 9 (by omega)).1 e))
        have q32 : ((x.toNat : Int) == 32) = false := beq_eq_false_iff_ne.2 (fun e => hx32 ((u8_eq x 32 (by omega)).1 e))
        have e1 := HD.out
        have e2 := HW.out
        have e0 : skp (x :: t) col n = (0, n, col, 0) := by rw [skp, if_pos (by omega)]
        rw [e0] at e1 e2
        have E1 := Aside0.mk e1
        have E2 := Aside0.mk e2
        clear hx9 hx32 hm hm4 hbl e0 e1 e2
        go_wp2
        go_ret
        obtain ⟨e1, e2, e3⟩ := E2.out
        exact ⟨by rw [← E1.out]; rfl, by rw [← e1, ← e2, ← e3]; exact HH.out, HBW.out, HSZ.out⟩
      · have hq : (((x.toNat : Int) == 9) = true ∧ (4 : Int) - (col : Int) % 4 = (m : Int)) ∨ (((x.toNat : Int) == 9) = false ∧ ((x.toNat : Int) == 32) = true ∧ (1 : Int) = (m : Int)) := by
          by_cases h9 : x = 9
          · subst h9
            simp only [wideB, if_true] at hm
            exact .inl ⟨by decide, by omega⟩
          · by_cases h32 : x = 32
            · subst h32
              simp [wideB] at hm
              exact .inr ⟨by decide, by decide, by omega⟩
            · simp [wideB, h9, h32] at hm
              omega
        by_cases hnm : n < m
        · have e0 : skp (x :: t) col n = (m, n, col, 0) := by rw [skp, hm, if_neg hbl, if_pos hnm]
          have e1 := HD.out
          have e2 := HW.out
          rw [e0] at e1 e2
          have E1 := Aside0.mk e1
          have E2 := Aside0.mk e2
          clear hm e0 e1 e2 HD HW HG HL HC HN
          rcases hq with ⟨q9, he⟩ | ⟨q9, q32, he⟩
          all_goals
            have HE := Aside0.mk he
            clear he
            go_wp2_with fail
            (try rw [HE.out])
            refine (skip_no (m : Int) (n : Int) b _ _ wr HH.out (by omega)).mono ?_
            rintro e w1 ⟨rfl, rfl⟩
            have H1 := Aside0.mk (box_cut (v := (m : Int)) HH.out)
            have HB1 := Aside0.mk (HBW.out.setCell (p := ⟨b + 2, 0, none⟩) (by simp) (.int .i64 (m : Int)))
            have hsz1 : (wr.setCell ⟨b + 2, 0, none⟩ (.int .i64 (m : Int))).heap.size = wr.heap.size := by simp [World.setCell]
            have HS1 := Aside0.mk hsz1
            clear hsz1
            generalize wr.setCell ⟨b + 2, 0, none⟩ (.int .i64 (m : Int)) = w1 at H1 HB1 HS1 ⊢
            go_wp2
            go_ret
            obtain ⟨e1, e2, e3⟩ := E2.out
            exact ⟨by rw [← E1.out]; rfl, by rw [← e1, ← e2, ← e3]; exact H1.out, HB1.out, HS1.out.trans HSZ.out⟩
        · have e0 : skp (x :: t) col n = ((skp t (col + m) (n - m)).1, (skp t (col + m) (n - m)).2.1, (skp t (col + m) (n - m)).2.2.1, (skp t (col + m) (n - m)).2.2.2 + 1) := by rw [skp, hm, if_neg hbl, if_neg hnm]
          have e1 := HD.out
          have e2 := HW.out
          rw [e0] at e1 e2
          simp only [List.drop_succ_cons] at e1 e2
          have E1 := Aside0.mk e1
          have E2 := Aside0.mk e2
          clear hm e0 e1 e2 HD HW HG HL HC HN
          rcases hq with ⟨q9, he⟩ | ⟨q9, q32, he⟩
          all_goals
            have HE := Aside0.mk he
            clear he
            go_wp2_with fail
            (try rw [HE.out])
            refine (skip_yes (m : Int) (n : Int) b (col : Int) 0 wr HH.out (by omega) (by omega) (by omega) (by omega) (by omega) (by omega)).mono ?_
            rintro e w1 ⟨rfl, rfl⟩
            have H1 := Aside0.mk (box_two (u := (n : Int) - (m : Int)) (v := (col : Int) + (m : Int)) HH.out)
            have HB1 := Aside0.mk ((HBW.out.setCell (p := ⟨b + 1, 0, none⟩) (by simp) (.int .i64 ((n : Int) - (m : Int)))).setCell (p := ⟨b, 0, none⟩) (Nat.le_refl _) (.int .i64 ((col : Int) + (m : Int))))
            have hsz1 : ((wr.setCell ⟨b + 1, 0, none⟩ (.int .i64 ((n : Int) - (m : Int)))).setCell ⟨b, 0, none⟩ (.int .i64 ((col : Int) + (m : Int)))).heap.size = wr.heap.size := by simp [World.setCell]
            have HS1 := Aside0.mk hsz1
            clear hsz1
            generalize (wr.setCell ⟨b + 1, 0, none⟩ (.int .i64 ((n : Int) - (m : Int)))).setCell ⟨b, 0, none⟩ (.int .i64 ((col : Int) + (m : Int))) = w1 at H1 HB1 HS1 ⊢
            go_wp2
            go_roundg (gk - 1)
            case measure => omega
            case rel => exact ⟨t, col + m, n - m, rfl, by go_num, ⟨by omega⟩, ⟨by omega⟩, ⟨by omega⟩, ⟨by omega⟩, ⟨by have := H1.out; rw [show (((col + m : Nat)) : Int) = (col : Int) + (m : Int) by omega, show ((n - m : Nat) : Int) = (n : Int) - (m : Int) by omega]; exact this⟩, HB1, ⟨HS1.out.trans HSZ.out⟩, E1, E2⟩
end Go.Proofs.YtjjpfkfdcbipjaaDoor.PA
