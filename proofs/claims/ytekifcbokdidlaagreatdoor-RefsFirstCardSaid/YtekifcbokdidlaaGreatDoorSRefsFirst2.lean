/-
  Texts of the proof of RefsFirst, part 2 of 6: contracts and plain laws. Conditions: see each statement.
-/
import Derived.Test.YtekifcbokdidlaaGreatDoorSRefsFirst1
import Derived.WalkKit
import Derived.BigCall
import Derived.Lib.Hide
import Derived.Lib.FrozenHead
import Derived.Lib.OthersKept
import Derived.Lib.Join
import Derived.Lib.FieldsP
import Derived.Lib.Strings
import Derived.Lib.Walk
import Derived.Lib.ConvBytes
import Derived.Laws.Strings3
import Derived.Laws.Closers25
import Derived.Laws.Closers25b
import Derived.BigGuard
import Derived.KernelRfl
import Derived.Laws.Tables
import Derived.Laws.Rows
import Derived.Laws.CopyOwn
import Derived.RangeFuncRecord
import Derived.WalkLawsBesides
set_option linter.unusedVariables false
namespace Go.Proofs.YtekifcbokdidlaaGreatDoor.PA
open Go.RowKit Go.Proofs.YtekifcbokdidlaaGreatDoorW.PrintWords Go.Proofs.YtekifcbokdidlaaGreatDoorW.PrintLast Go.Proofs.YtekifcbokdidlaaGreatDoorW.PrintMore Go.Proofs.YtekifcbokdidlaaGreatDoor.Pl
set_option linter.unusedVariables false

end Go.Proofs.YtekifcbokdidlaaGreatDoor.PA

namespace Go.Proofs.YtekifcbokdidlaaGreatDoor.PA
open Go.RowKit Go.Proofs.YtekifcbokdidlaaGreatDoorW.PrintWords Go.Proofs.YtekifcbokdidlaaGreatDoorW.PrintLast Go.Proofs.YtekifcbokdidlaaGreatDoorW.PrintMore Go.Proofs.YtekifcbokdidlaaGreatDoor.Pl
set_option linter.unusedVariables false

/-- A character without capitals. -/
def foldR (r : Int) : Int :=
  if r = 962 then 963
  else if (65 ≤ r ∧ r ≤ 90) ∨ (192 ≤ r ∧ r ≤ 222 ∧ r ≠ 215) ∨ (913 ≤ r ∧ r ≤ 939 ∧ r ≠ 930) ∨ (1040 ≤ r ∧ r ≤ 1071) then r + 32
  else if 1024 ≤ r ∧ r ≤ 1039 then r + 80 else r
/-- Its bytes. -/
def foldB (r : Int) : List UInt8 := if r = 223 ∨ r = 7838 then [115, 115] else Lib.encodeRune (foldR r)
theorem foldB_ss {r : Int} (h : r = 223 ∨ r = 7838) : foldB r = [115, 115] := if_pos h
theorem foldB_no {r n : Int} (h1 : r ≠ 223) (h2 : r ≠ 7838) (h3 : foldR r = n) : foldB r = Lib.encodeRune n := by unfold foldB; rw [if_neg (by rintro (e | e); exact h1 e; exact h2 e), h3]
def FoldGoal (B b : Nat) (l : List UInt8) (r : Int) (w : World) : Prop :=
  Calls Tryz.prog 63 #[.pointer (some ⟨b, 0, none⟩), .int .i32 r] w fun e w' => e = .returned (.tuple #[]) ∧ Lib.IsBuilderF 72 5 B b (Lib.byteCells (l ++ foldB r)) w' ∧ Below B w w' ∧ Lib.OthersKept 5 (some b) w w'

set_option maxHeartbeats 1000000 in
set_option maxRecDepth 100000 in
theorem fold_0 (B b : Nat) (l : List UInt8) (r : Int) (h0 : 0 ≤ r) (h1 : r ≤ 64) (w : World) (h : Lib.IsBuilderF 72 5 B b (Lib.byteCells l) w) (hlen : l.length + 4 ≤ 140737488355328) (hBw : B ≤ w.heap.size) : FoldGoal B b l r w := by
  have HB := Lib.hid (foldB_no (r := r) (n := r) (by omega) (by omega) (by unfold foldR; rw [if_neg (by omega), if_neg (by omega), if_neg (by omega)]))
  have hz : (Lib.byteCells l).length = l.length := Lib.byteCells_length l
  have HW := Lib.hid (Tryz.Builder_WriteRune_k B b (Lib.byteCells l) (r) (by omega) (by omega) w h (by omega) hBw)
  have q0 : (r == 223) = false := beq_eq_false_iff_ne.2 (by omega)
  have q1 : (r == 7838) = false := beq_eq_false_iff_ne.2 (by omega)
  have q2 : (r == 962) = false := beq_eq_false_iff_ne.2 (by omega)
  have q3 : decide (65 ≤ r) = false := decide_eq_false (by omega)
  have q4 : decide (r ≤ 90) = true := decide_eq_true (by omega)
  have q5 : decide (192 ≤ r) = false := decide_eq_false (by omega)
  have q6 : decide (r ≤ 222) = true := decide_eq_true (by omega)
  have q7 : (r == 215) = false := beq_eq_false_iff_ne.2 (by omega)
  have q7b : (r != 215) = true := by rw [bne, q7]; rfl
  have q8 : decide (913 ≤ r) = false := decide_eq_false (by omega)
  have q9 : decide (r ≤ 939) = true := decide_eq_true (by omega)
  have q10 : (r == 930) = false := beq_eq_false_iff_ne.2 (by omega)
  have q10b : (r != 930) = true := by rw [bne, q10]; rfl
  have q11 : decide (1040 ≤ r) = false := decide_eq_false (by omega)
  have q12 : decide (r ≤ 1071) = true := decide_eq_true (by omega)
  have q13 : decide (1024 ≤ r) = false := decide_eq_false (by omega)
  have q14 : decide (r ≤ 1039) = true := decide_eq_true (by omega)
  clear hlen h0 h1 hz
  unfold FoldGoal
  rw [HB.out, Lib.byteCells_append]
  clear HB h hBw
  go_enter Tryz.func63, Tryz.ntmps63
  go_wp2_with fail
  refine HW.out.mono ?_
  rintro e w1 ⟨rfl, h1, h2, h3⟩
  rw [← Lib.byteCells_encodeRune] at h1
  go_wp2
  go_end0
  exact ⟨rfl, .inr h1, h2, h3⟩
set_option maxHeartbeats 1000000 in
set_option maxRecDepth 100000 in
theorem fold_1 (B b : Nat) (l : List UInt8) (r : Int) (h0 : 65 ≤ r) (h1 : r ≤ 90) (w : World) (h : Lib.IsBuilderF 72 5 B b (Lib.byteCells l) w) (hlen : l.length + 4 ≤ 140737488355328) (hBw : B ≤ w.heap.size) : FoldGoal B b l r w := by
  have HB := Lib.hid (foldB_no (r := r) (n := r + 32) (by omega) (by omega) (by unfold foldR; rw [if_neg (by omega), if_pos (by omega)]))
  have hz : (Lib.byteCells l).length = l.length := Lib.byteCells_length l
  have HW := Lib.hid (Tryz.Builder_WriteRune_k B b (Lib.byteCells l) (r + 32) (by omega) (by omega) w h (by omega) hBw)
  have q0 : (r == 223) = false := beq_eq_false_iff_ne.2 (by omega)
  have q1 : (r == 7838) = false := beq_eq_false_iff_ne.2 (by omega)
  have q2 : (r == 962) = false := beq_eq_false_iff_ne.2 (by omega)
  have q3 : decide (65 ≤ r) = true := decide_eq_true (by omega)
  have q4 : decide (r ≤ 90) = true := decide_eq_true (by omega)
  have q5 : decide (192 ≤ r) = false := decide_eq_false (by omega)
  have q6 : decide (r ≤ 222) = true := decide_eq_true (by omega)
  have q7 : (r == 215) = false := beq_eq_false_iff_ne.2 (by omega)
  have q7b : (r != 215) = true := by rw [bne, q7]; rfl
  have q8 : decide (913 ≤ r) = false := decide_eq_false (by omega)
  have q9 : decide (r ≤ 939) = true := decide_eq_true (by omega)
  have q10 : (r == 930) = false := beq_eq_false_iff_ne.2 (by omega)
  have q10b : (r != 930) = true := by rw [bne, q10]; rfl
  have q11 : decide (1040 ≤ r) = false := decide_eq_false (by omega)
  have q12 : decide (r ≤ 1071) = true := decide_eq_true (by omega)
  have q13 : decide (1024 ≤ r) = false := decide_eq_false (by omega)
  have q14 : decide (r ≤ 1039) = true := decide_eq_true (by omega)
  have s0 : -2147483648 ≤ r + 32 := by omega
  have s1 : r + 32 ≤ 2147483647 := by omega
  have s2 : IntKind.i32.wrap (r + 32) = r + 32 := by rw [IntKind.wrap_i32]; omega
  clear hlen h0 h1 hz
  unfold FoldGoal
  rw [HB.out, Lib.byteCells_append]
  clear HB h hBw
  go_enter Tryz.func63, Tryz.ntmps63
  go_wp2_with fail
  refine HW.out.mono ?_
  rintro e w1 ⟨rfl, h1, h2, h3⟩
  rw [← Lib.byteCells_encodeRune] at h1
  go_wp2
  go_end0
  exact ⟨rfl, .inr h1, h2, h3⟩
set_option maxHeartbeats 1000000 in
set_option maxRecDepth 100000 in
theorem fold_2 (B b : Nat) (l : List UInt8) (r : Int) (h0 : 91 ≤ r) (h1 : r ≤ 191) (w : World) (h : Lib.IsBuilderF 72 5 B b (Lib.byteCells l) w) (hlen : l.length + 4 ≤ 140737488355328) (hBw : B ≤ w.heap.size) : FoldGoal B b l r w := by
  have HB := Lib.hid (foldB_no (r := r) (n := r) (by omega) (by omega) (by unfold foldR; rw [if_neg (by omega), if_neg (by omega), if_neg (by omega)]))
  have hz : (Lib.byteCells l).length = l.length := Lib.byteCells_length l
  have HW := Lib.hid (Tryz.Builder_WriteRune_k B b (Lib.byteCells l) (r) (by omega) (by omega) w h (by omega) hBw)
  have q0 : (r == 223) = false := beq_eq_false_iff_ne.2 (by omega)
  have q1 : (r == 7838) = false := beq_eq_false_iff_ne.2 (by omega)
  have q2 : (r == 962) = false := beq_eq_false_iff_ne.2 (by omega)
  have q3 : decide (65 ≤ r) = true := decide_eq_true (by omega)
  have q4 : decide (r ≤ 90) = false := decide_eq_false (by omega)
  have q5 : decide (192 ≤ r) = false := decide_eq_false (by omega)
  have q6 : decide (r ≤ 222) = true := decide_eq_true (by omega)
  have q7 : (r == 215) = false := beq_eq_false_iff_ne.2 (by omega)
  have q7b : (r != 215) = true := by rw [bne, q7]; rfl
  have q8 : decide (913 ≤ r) = false := decide_eq_false (by omega)
  have q9 : decide (r ≤ 939) = true := decide_eq_true (by omega)
  have q10 : (r == 930) = false := beq_eq_false_iff_ne.2 (by omega)
  have q10b : (r != 930) = true := by rw [bne, q10]; rfl
  have q11 : decide (1040 ≤ r) = false := decide_eq_false (by omega)
  have q12 : decide (r ≤ 1071) = true := decide_eq_true (by omega)
  have q13 : decide (1024 ≤ r) = false := decide_eq_false (by omega)
  have q14 : decide (r ≤ 1039) = true := decide_eq_true (by omega)
  clear hlen h0 h1 hz
  unfold FoldGoal
  rw [HB.out, Lib.byteCells_append]
  clear HB h hBw
  go_enter Tryz.func63, Tryz.ntmps63
  go_wp2_with fail
  refine HW.out.mono ?_
  rintro e w1 ⟨rfl, h1, h2, h3⟩
  rw [← Lib.byteCells_encodeRune] at h1
  go_wp2
  go_end0
  exact ⟨rfl, .inr h1, h2, h3⟩
set_option maxHeartbeats 1000000 in
set_option maxRecDepth 100000 in
theorem fold_3 (B b : Nat) (l : List UInt8) (r : Int) (h0 : 192 ≤ r) (h1 : r ≤ 214) (w : World) (h : Lib.IsBuilderF 72 5 B b (Lib.byteCells l) w) (hlen : l.length + 4 ≤ 140737488355328) (hBw : B ≤ w.heap.size) : FoldGoal B b l r w := by
  have HB := Lib.hid (foldB_no (r := r) (n := r + 32) (by omega) (by omega) (by unfold foldR; rw [if_neg (by omega), if_pos (by omega)]))
  have hz : (Lib.byteCells l).length = l.length := Lib.byteCells_length l
  have HW := Lib.hid (Tryz.Builder_WriteRune_k B b (Lib.byteCells l) (r + 32) (by omega) (by omega) w h (by omega) hBw)
  have q0 : (r == 223) = false := beq_eq_false_iff_ne.2 (by omega)
  have q1 : (r == 7838) = false := beq_eq_false_iff_ne.2 (by omega)
  have q2 : (r == 962) = false := beq_eq_false_iff_ne.2 (by omega)
  have q3 : decide (65 ≤ r) = true := decide_eq_true (by omega)
  have q4 : decide (r ≤ 90) = false := decide_eq_false (by omega)
  have q5 : decide (192 ≤ r) = true := decide_eq_true (by omega)
  have q6 : decide (r ≤ 222) = true := decide_eq_true (by omega)
  have q7 : (r == 215) = false := beq_eq_false_iff_ne.2 (by omega)
  have q7b : (r != 215) = true := by rw [bne, q7]; rfl
  have q8 : decide (913 ≤ r) = false := decide_eq_false (by omega)
  have q9 : decide (r ≤ 939) = true := decide_eq_true (by omega)
  have q10 : (r == 930) = false := beq_eq_false_iff_ne.2 (by omega)
  have q10b : (r != 930) = true := by rw [bne, q10]; rfl
  have q11 : decide (1040 ≤ r) = false := decide_eq_false (by omega)
  have q12 : decide (r ≤ 1071) = true := decide_eq_true (by omega)
  have q13 : decide (1024 ≤ r) = false := decide_eq_false (by omega)
  have q14 : decide (r ≤ 1039) = true := decide_eq_true (by omega)
  have s0 : -2147483648 ≤ r + 32 := by omega
  have s1 : r + 32 ≤ 2147483647 := by omega
  have s2 : IntKind.i32.wrap (r + 32) = r + 32 := by rw [IntKind.wrap_i32]; omega
  clear hlen h0 h1 hz
  unfold FoldGoal
  rw [HB.out, Lib.byteCells_append]
  clear HB h hBw
  go_enter Tryz.func63, Tryz.ntmps63
  go_wp2_with fail
  refine HW.out.mono ?_
  rintro e w1 ⟨rfl, h1, h2, h3⟩
  rw [← Lib.byteCells_encodeRune] at h1
  go_wp2
  go_end0
  exact ⟨rfl, .inr h1, h2, h3⟩
set_option maxHeartbeats 1000000 in
set_option maxRecDepth 100000 in
theorem fold_4 (B b : Nat) (l : List UInt8) (r : Int) (h0 : 215 ≤ r) (h1 : r ≤ 215) (w : World) (h : Lib.IsBuilderF 72 5 B b (Lib.byteCells l) w) (hlen : l.length + 4 ≤ 140737488355328) (hBw : B ≤ w.heap.size) : FoldGoal B b l r w := by
  have HB := Lib.hid (foldB_no (r := r) (n := r) (by omega) (by omega) (by unfold foldR; rw [if_neg (by omega), if_neg (by omega), if_neg (by omega)]))
  have hz : (Lib.byteCells l).length = l.length := Lib.byteCells_length l
  have HW := Lib.hid (Tryz.Builder_WriteRune_k B b (Lib.byteCells l) (r) (by omega) (by omega) w h (by omega) hBw)
  have q0 : (r == 223) = false := beq_eq_false_iff_ne.2 (by omega)
  have q1 : (r == 7838) = false := beq_eq_false_iff_ne.2 (by omega)
  have q2 : (r == 962) = false := beq_eq_false_iff_ne.2 (by omega)
  have q3 : decide (65 ≤ r) = true := decide_eq_true (by omega)
  have q4 : decide (r ≤ 90) = false := decide_eq_false (by omega)
  have q5 : decide (192 ≤ r) = true := decide_eq_true (by omega)
  have q6 : decide (r ≤ 222) = true := decide_eq_true (by omega)
  have q7 : (r == 215) = true := beq_iff_eq.2 (by omega)
  have q7b : (r != 215) = false := by rw [bne, q7]; rfl
  have q8 : decide (913 ≤ r) = false := decide_eq_false (by omega)
  have q9 : decide (r ≤ 939) = true := decide_eq_true (by omega)
  have q10 : (r == 930) = false := beq_eq_false_iff_ne.2 (by omega)
  have q10b : (r != 930) = true := by rw [bne, q10]; rfl
  have q11 : decide (1040 ≤ r) = false := decide_eq_false (by omega)
  have q12 : decide (r ≤ 1071) = true := decide_eq_true (by omega)
  have q13 : decide (1024 ≤ r) = false := decide_eq_false (by omega)
  have q14 : decide (r ≤ 1039) = true := decide_eq_true (by omega)
  clear hlen h0 h1 hz
  unfold FoldGoal
  rw [HB.out, Lib.byteCells_append]
  clear HB h hBw
  go_enter Tryz.func63, Tryz.ntmps63
  go_wp2_with fail
  refine HW.out.mono ?_
  rintro e w1 ⟨rfl, h1, h2, h3⟩
  rw [← Lib.byteCells_encodeRune] at h1
  go_wp2
  go_end0
  exact ⟨rfl, .inr h1, h2, h3⟩
set_option maxHeartbeats 1000000 in
set_option maxRecDepth 100000 in
theorem fold_5 (B b : Nat) (l : List UInt8) (r : Int) (h0 : 216 ≤ r) (h1 : r ≤ 222) (w : World) (h : Lib.IsBuilderF 72 5 B b (Lib.byteCells l) w) (hlen : l.length + 4 ≤ 140737488355328) (hBw : B ≤ w.heap.size) : FoldGoal B b l r w := by
  have HB := Lib.hid (foldB_no (r := r) (n := r + 32) (by omega) (by omega) (by unfold foldR; rw [if_neg (by omega), if_pos (by omega)]))
  have hz : (Lib.byteCells l).length = l.length := Lib.byteCells_length l
  have HW := Lib.hid (Tryz.Builder_WriteRune_k B b (Lib.byteCells l) (r + 32) (by omega) (by omega) w h (by omega) hBw)
  have q0 : (r == 223) = false := beq_eq_false_iff_ne.2 (by omega)
  have q1 : (r == 7838) = false := beq_eq_false_iff_ne.2 (by omega)
  have q2 : (r == 962) = false := beq_eq_false_iff_ne.2 (by omega)
  have q3 : decide (65 ≤ r) = true := decide_eq_true (by omega)
  have q4 : decide (r ≤ 90) = false := decide_eq_false (by omega)
  have q5 : decide (192 ≤ r) = true := decide_eq_true (by omega)
  have q6 : decide (r ≤ 222) = true := decide_eq_true (by omega)
  have q7 : (r == 215) = false := beq_eq_false_iff_ne.2 (by omega)
  have q7b : (r != 215) = true := by rw [bne, q7]; rfl
  have q8 : decide (913 ≤ r) = false := decide_eq_false (by omega)
  have q9 : decide (r ≤ 939) = true := decide_eq_true (by omega)
  have q10 : (r == 930) = false := beq_eq_false_iff_ne.2 (by omega)
  have q10b : (r != 930) = true := by rw [bne, q10]; rfl
  have q11 : decide (1040 ≤ r) = false := decide_eq_false (by omega)
  have q12 : decide (r ≤ 1071) = true := decide_eq_true (by omega)
  have q13 : decide (1024 ≤ r) = false := decide_eq_false (by omega)
  have q14 : decide (r ≤ 1039) = true := decide_eq_true (by omega)
  have s0 : -2147483648 ≤ r + 32 := by omega
  have s1 : r + 32 ≤ 2147483647 := by omega
  have s2 : IntKind.i32.wrap (r + 32) = r + 32 := by rw [IntKind.wrap_i32]; omega
  clear hlen h0 h1 hz
  unfold FoldGoal
  rw [HB.out, Lib.byteCells_append]
  clear HB h hBw
  go_enter Tryz.func63, Tryz.ntmps63
  go_wp2_with fail
  refine HW.out.mono ?_
  rintro e w1 ⟨rfl, h1, h2, h3⟩
  rw [← Lib.byteCells_encodeRune] at h1
  go_wp2
  go_end0
  exact ⟨rfl, .inr h1, h2, h3⟩
set_option maxHeartbeats 1000000 in
set_option maxRecDepth 100000 in
theorem fold_6 (B b : Nat) (l : List UInt8) (r : Int) (h0 : 223 ≤ r) (h1 : r ≤ 223) (w : World) (h : Lib.IsBuilderF 72 5 B b (Lib.byteCells l) w) (hlen : l.length + 4 ≤ 140737488355328) (hBw : B ≤ w.heap.size) : FoldGoal B b l r w := by
  have HB := Lib.hid (foldB_ss (r := r) (by omega))
  have hz : (Lib.byteCells l).length = l.length := Lib.byteCells_length l
  have HW := Lib.hid (Tryz.Builder_WriteString_k B b (Lib.byteCells l) ⟨#[115, 115]⟩ w h (by show _ + 2 ≤ _; omega) hBw)
  have q0 : (r == 223) = true := beq_iff_eq.2 (by omega)
  have q1 : (r == 7838) = false := beq_eq_false_iff_ne.2 (by omega)
  have q2 : (r == 962) = false := beq_eq_false_iff_ne.2 (by omega)
  have q3 : decide (65 ≤ r) = true := decide_eq_true (by omega)
  have q4 : decide (r ≤ 90) = false := decide_eq_false (by omega)
  have q5 : decide (192 ≤ r) = true := decide_eq_true (by omega)
  have q6 : decide (r ≤ 222) = false := decide_eq_false (by omega)
  have q7 : (r == 215) = false := beq_eq_false_iff_ne.2 (by omega)
  have q7b : (r != 215) = true := by rw [bne, q7]; rfl
  have q8 : decide (913 ≤ r) = false := decide_eq_false (by omega)
  have q9 : decide (r ≤ 939) = true := decide_eq_true (by omega)
  have q10 : (r == 930) = false := beq_eq_false_iff_ne.2 (by omega)
  have q10b : (r != 930) = true := by rw [bne, q10]; rfl
  have q11 : decide (1040 ≤ r) = false := decide_eq_false (by omega)
  have q12 : decide (r ≤ 1071) = true := decide_eq_true (by omega)
  have q13 : decide (1024 ≤ r) = false := decide_eq_false (by omega)
  have q14 : decide (r ≤ 1039) = true := decide_eq_true (by omega)
  clear hlen h0 h1 hz
  unfold FoldGoal
  rw [HB.out, Lib.byteCells_append]
  clear HB h hBw
  go_enter Tryz.func63, Tryz.ntmps63
  go_wp2_with fail
  refine HW.out.mono ?_
  rintro e w1 ⟨rfl, h1, h2, h3⟩
  go_wp2
  repeat (first | refine ex_noGoto_ret ?_ | refine ex_block_ret ?_ | refine ex_then_ret ?_)
  refine bodyPost_ret (results_none rfl _ _ _) rfl ?_
  exact ⟨rfl, .inr h1, h2, h3⟩
set_option maxHeartbeats 1000000 in
set_option maxRecDepth 100000 in
theorem fold_7 (B b : Nat) (l : List UInt8) (r : Int) (h0 : 224 ≤ r) (h1 : r ≤ 912) (w : World) (h : Lib.IsBuilderF 72 5 B b (Lib.byteCells l) w) (hlen : l.length + 4 ≤ 140737488355328) (hBw : B ≤ w.heap.size) : FoldGoal B b l r w := by
  have HB := Lib.hid (foldB_no (r := r) (n := r) (by omega) (by omega) (by unfold foldR; rw [if_neg (by omega), if_neg (by omega), if_neg (by omega)]))
  have hz : (Lib.byteCells l).length = l.length := Lib.byteCells_length l
  have HW := Lib.hid (Tryz.Builder_WriteRune_k B b (Lib.byteCells l) (r) (by omega) (by omega) w h (by omega) hBw)
  have q0 : (r == 223) = false := beq_eq_false_iff_ne.2 (by omega)
  have q1 : (r == 7838) = false := beq_eq_false_iff_ne.2 (by omega)
  have q2 : (r == 962) = false := beq_eq_false_iff_ne.2 (by omega)
  have q3 : decide (65 ≤ r) = true := decide_eq_true (by omega)
  have q4 : decide (r ≤ 90) = false := decide_eq_false (by omega)
  have q5 : decide (192 ≤ r) = true := decide_eq_true (by omega)
  have q6 : decide (r ≤ 222) = false := decide_eq_false (by omega)
  have q7 : (r == 215) = false := beq_eq_false_iff_ne.2 (by omega)
  have q7b : (r != 215) = true := by rw [bne, q7]; rfl
  have q8 : decide (913 ≤ r) = false := decide_eq_false (by omega)
  have q9 : decide (r ≤ 939) = true := decide_eq_true (by omega)
  have q10 : (r == 930) = false := beq_eq_false_iff_ne.2 (by omega)
  have q10b : (r != 930) = true := by rw [bne, q10]; rfl
  have q11 : decide (1040 ≤ r) = false := decide_eq_false (by omega)
  have q12 : decide (r ≤ 1071) = true := decide_eq_true (by omega)
  have q13 : decide (1024 ≤ r) = false := decide_eq_false (by omega)
  have q14 : decide (r ≤ 1039) = true := decide_eq_true (by omega)
  clear hlen h0 h1 hz
  unfold FoldGoal
  rw [HB.out, Lib.byteCells_append]
  clear HB h hBw
  go_enter Tryz.func63, Tryz.ntmps63
  go_wp2_with fail
  refine HW.out.mono ?_
  rintro e w1 ⟨rfl, h1, h2, h3⟩
  rw [← Lib.byteCells_encodeRune] at h1
  go_wp2
  go_end0
  exact ⟨rfl, .inr h1, h2, h3⟩
set_option maxHeartbeats 1000000 in
set_option maxRecDepth 100000 in
theorem fold_8 (B b : Nat) (l : List UInt8) (r : Int) (h0 : 913 ≤ r) (h1 : r ≤ 929) (w : World) (h : Lib.IsBuilderF 72 5 B b (Lib.byteCells l) w) (hlen : l.length + 4 ≤ 140737488355328) (hBw : B ≤ w.heap.size) : FoldGoal B b l r w := by
  have HB := Lib.hid (foldB_no (r := r) (n := r + 32) (by omega) (by omega) (by unfold foldR; rw [if_neg (by omega), if_pos (by omega)]))
  have hz : (Lib.byteCells l).length = l.length := Lib.byteCells_length l
  have HW := Lib.hid (Tryz.Builder_WriteRune_k B b (Lib.byteCells l) (r + 32) (by omega) (by omega) w h (by omega) hBw)
  have q0 : (r == 223) = false := beq_eq_false_iff_ne.2 (by omega)
  have q1 : (r == 7838) = false := beq_eq_false_iff_ne.2 (by omega)
  have q2 : (r == 962) = false := beq_eq_false_iff_ne.2 (by omega)
  have q3 : decide (65 ≤ r) = true := decide_eq_true (by omega)
  have q4 : decide (r ≤ 90) = false := decide_eq_false (by omega)
  have q5 : decide (192 ≤ r) = true := decide_eq_true (by omega)
  have q6 : decide (r ≤ 222) = false := decide_eq_false (by omega)
  have q7 : (r == 215) = false := beq_eq_false_iff_ne.2 (by omega)
  have q7b : (r != 215) = true := by rw [bne, q7]; rfl
  have q8 : decide (913 ≤ r) = true := decide_eq_true (by omega)
  have q9 : decide (r ≤ 939) = true := decide_eq_true (by omega)
  have q10 : (r == 930) = false := beq_eq_false_iff_ne.2 (by omega)
  have q10b : (r != 930) = true := by rw [bne, q10]; rfl
  have q11 : decide (1040 ≤ r) = false := decide_eq_false (by omega)
  have q12 : decide (r ≤ 1071) = true := decide_eq_true (by omega)
  have q13 : decide (1024 ≤ r) = false := decide_eq_false (by omega)
  have q14 : decide (r ≤ 1039) = true := decide_eq_true (by omega)
  have s0 : -2147483648 ≤ r + 32 := by omega
  have s1 : r + 32 ≤ 2147483647 := by omega
  have s2 : IntKind.i32.wrap (r + 32) = r + 32 := by rw [IntKind.wrap_i32]; omega
  clear hlen h0 h1 hz
  unfold FoldGoal
  rw [HB.out, Lib.byteCells_append]
  clear HB h hBw
  go_enter Tryz.func63, Tryz.ntmps63
  go_wp2_with fail
  refine HW.out.mono ?_
  rintro e w1 ⟨rfl, h1, h2, h3⟩
  rw [← Lib.byteCells_encodeRune] at h1
  go_wp2
  go_end0
  exact ⟨rfl, .inr h1, h2, h3⟩
set_option maxHeartbeats 1000000 in
set_option maxRecDepth 100000 in
theorem fold_9 (B b : Nat) (l : List UInt8) (r : Int) (h0 : 930 ≤ r) (h1 : r ≤ 930) (w : World) (h : Lib.IsBuilderF 72 5 B b (Lib.byteCells l) w) (hlen : l.length + 4 ≤ 140737488355328) (hBw : B ≤ w.heap.size) : FoldGoal B b l r w := by
  have HB := Lib.hid (foldB_no (r := r) (n := r) (by omega) (by omega) (by unfold foldR; rw [if_neg (by omega), if_neg (by omega), if_neg (by omega)]))
  have hz : (Lib.byteCells l).length = l.length := Lib.byteCells_length l
  have HW := Lib.hid (Tryz.Builder_WriteRune_k B b (Lib.byteCells l) (r) (by omega) (by omega) w h (by omega) hBw)
  have q0 : (r == 223) = false := beq_eq_false_iff_ne.2 (by omega)
  have q1 : (r == 7838) = false := beq_eq_false_iff_ne.2 (by omega)
  have q2 : (r == 962) = false := beq_eq_false_iff_ne.2 (by omega)
  have q3 : decide (65 ≤ r) = true := decide_eq_true (by omega)
  have q4 : decide (r ≤ 90) = false := decide_eq_false (by omega)
  have q5 : decide (192 ≤ r) = true := decide_eq_true (by omega)
  have q6 : decide (r ≤ 222) = false := decide_eq_false (by omega)
  have q7 : (r == 215) = false := beq_eq_false_iff_ne.2 (by omega)
  have q7b : (r != 215) = true := by rw [bne, q7]; rfl
  have q8 : decide (913 ≤ r) = true := decide_eq_true (by omega)
  have q9 : decide (r ≤ 939) = true := decide_eq_true (by omega)
  have q10 : (r == 930) = true := beq_iff_eq.2 (by omega)
  have q10b : (r != 930) = false := by rw [bne, q10]; rfl
  have q11 : decide (1040 ≤ r) = false := decide_eq_false (by omega)
  have q12 : decide (r ≤ 1071) = true := decide_eq_true (by omega)
  have q13 : decide (1024 ≤ r) = false := decide_eq_false (by omega)
  have q14 : decide (r ≤ 1039) = true := decide_eq_true (by omega)
  clear hlen h0 h1 hz
  unfold FoldGoal
  rw [HB.out, Lib.byteCells_append]
  clear HB h hBw
  go_enter Tryz.func63, Tryz.ntmps63
  go_wp2_with fail
  refine HW.out.mono ?_
  rintro e w1 ⟨rfl, h1, h2, h3⟩
  rw [← Lib.byteCells_encodeRune] at h1
  go_wp2
  go_end0
  exact ⟨rfl, .inr h1, h2, h3⟩
set_option maxHeartbeats 1000000 in
set_option maxRecDepth 100000 in
theorem fold_10 (B b : Nat) (l : List UInt8) (r : Int) (h0 : 931 ≤ r) (h1 : r ≤ 939) (w : World) (h : Lib.IsBuilderF 72 5 B b (Lib.byteCells l) w) (hlen : l.length + 4 ≤ 140737488355328) (hBw : B ≤ w.heap.size) : FoldGoal B b l r w := by
  have HB := Lib.hid (foldB_no (r := r) (n := r + 32) (by omega) (by omega) (by unfold foldR; rw [if_neg (by omega), if_pos (by omega)]))
  have hz : (Lib.byteCells l).length = l.length := Lib.byteCells_length l
  have HW := Lib.hid (Tryz.Builder_WriteRune_k B b (Lib.byteCells l) (r + 32) (by omega) (by omega) w h (by omega) hBw)
  have q0 : (r == 223) = false := beq_eq_false_iff_ne.2 (by omega)
  have q1 : (r == 7838) = false := beq_eq_false_iff_ne.2 (by omega)
  have q2 : (r == 962) = false := beq_eq_false_iff_ne.2 (by omega)
  have q3 : decide (65 ≤ r) = true := decide_eq_true (by omega)
  have q4 : decide (r ≤ 90) = false := decide_eq_false (by omega)
  have q5 : decide (192 ≤ r) = true := decide_eq_true (by omega)
  have q6 : decide (r ≤ 222) = false := decide_eq_false (by omega)
  have q7 : (r == 215) = false := beq_eq_false_iff_ne.2 (by omega)
  have q7b : (r != 215) = true := by rw [bne, q7]; rfl
  have q8 : decide (913 ≤ r) = true := decide_eq_true (by omega)
  have q9 : decide (r ≤ 939) = true := decide_eq_true (by omega)
  have q10 : (r == 930) = false := beq_eq_false_iff_ne.2 (by omega)
  have q10b : (r != 930) = true := by rw [bne, q10]; rfl
  have q11 : decide (1040 ≤ r) = false := decide_eq_false (by omega)
  have q12 : decide (r ≤ 1071) = true := decide_eq_true (by omega)
  have q13 : decide (1024 ≤ r) = false := decide_eq_false (by omega)
  have q14 : decide (r ≤ 1039) = true := decide_eq_true (by omega)
  have s0 : -2147483648 ≤ r + 32 := by omega
  have s1 : r + 32 ≤ 2147483647 := by omega
  have s2 : IntKind.i32.wrap (r + 32) = r + 32 := by rw [IntKind.wrap_i32]; omega
  clear hlen h0 h1 hz
  unfold FoldGoal
  rw [HB.out, Lib.byteCells_append]
  clear HB h hBw
  go_enter Tryz.func63, Tryz.ntmps63
  go_wp2_with fail
  refine HW.out.mono ?_
  rintro e w1 ⟨rfl, h1, h2, h3⟩
  rw [← Lib.byteCells_encodeRune] at h1
  go_wp2
  go_end0
  exact ⟨rfl, .inr h1, h2, h3⟩
set_option maxHeartbeats 1000000 in
set_option maxRecDepth 100000 in
theorem fold_11 (B b : Nat) (l : List UInt8) (r : Int) (h0 : 940 ≤ r) (h1 : r ≤ 961) (w : World) (h : Lib.IsBuilderF 72 5 B b (Lib.byteCells l) w) (hlen : l.length + 4 ≤ 140737488355328) (hBw : B ≤ w.heap.size) : FoldGoal B b l r w := by
  have HB := Lib.hid (foldB_no (r := r) (n := r) (by omega) (by omega) (by unfold foldR; rw [if_neg (by omega), if_neg (by omega), if_neg (by omega)]))
  have hz : (Lib.byteCells l).length = l.length := Lib.byteCells_length l
  have HW := Lib.hid (Tryz.Builder_WriteRune_k B b (Lib.byteCells l) (r) (by omega) (by omega) w h (by omega) hBw)
  have q0 : (r == 223) = false := beq_eq_false_iff_ne.2 (by omega)
  have q1 : (r == 7838) = false := beq_eq_false_iff_ne.2 (by omega)
  have q2 : (r == 962) = false := beq_eq_false_iff_ne.2 (by omega)
  have q3 : decide (65 ≤ r) = true := decide_eq_true (by omega)
  have q4 : decide (r ≤ 90) = false := decide_eq_false (by omega)
  have q5 : decide (192 ≤ r) = true := decide_eq_true (by omega)
  have q6 : decide (r ≤ 222) = false := decide_eq_false (by omega)
  have q7 : (r == 215) = false := beq_eq_false_iff_ne.2 (by omega)
  have q7b : (r != 215) = true := by rw [bne, q7]; rfl
  have q8 : decide (913 ≤ r) = true := decide_eq_true (by omega)
  have q9 : decide (r ≤ 939) = false := decide_eq_false (by omega)
  have q10 : (r == 930) = false := beq_eq_false_iff_ne.2 (by omega)
  have q10b : (r != 930) = true := by rw [bne, q10]; rfl
  have q11 : decide (1040 ≤ r) = false := decide_eq_false (by omega)
  have q12 : decide (r ≤ 1071) = true := decide_eq_true (by omega)
  have q13 : decide (1024 ≤ r) = false := decide_eq_false (by omega)
  have q14 : decide (r ≤ 1039) = true := decide_eq_true (by omega)
  clear hlen h0 h1 hz
  unfold FoldGoal
  rw [HB.out, Lib.byteCells_append]
  clear HB h hBw
  go_enter Tryz.func63, Tryz.ntmps63
  go_wp2_with fail
  refine HW.out.mono ?_
  rintro e w1 ⟨rfl, h1, h2, h3⟩
  rw [← Lib.byteCells_encodeRune] at h1
  go_wp2
  go_end0
  exact ⟨rfl, .inr h1, h2, h3⟩
set_option maxHeartbeats 1000000 in
set_option maxRecDepth 100000 in
theorem fold_12 (B b : Nat) (l : List UInt8) (r : Int) (h0 : 962 ≤ r) (h1 : r ≤ 962) (w : World) (h : Lib.IsBuilderF 72 5 B b (Lib.byteCells l) w) (hlen : l.length + 4 ≤ 140737488355328) (hBw : B ≤ w.heap.size) : FoldGoal B b l r w := by
  have HB := Lib.hid (foldB_no (r := r) (n := 963) (by omega) (by omega) (by unfold foldR; rw [if_pos (by omega)]))
  have hz : (Lib.byteCells l).length = l.length := Lib.byteCells_length l
  have HW := Lib.hid (Tryz.Builder_WriteRune_k B b (Lib.byteCells l) (963) (by omega) (by omega) w h (by omega) hBw)
  have q0 : (r == 223) = false := beq_eq_false_iff_ne.2 (by omega)
  have q1 : (r == 7838) = false := beq_eq_false_iff_ne.2 (by omega)
  have q2 : (r == 962) = true := beq_iff_eq.2 (by omega)
  have q3 : decide (65 ≤ r) = true := decide_eq_true (by omega)
  have q4 : decide (r ≤ 90) = false := decide_eq_false (by omega)
  have q5 : decide (192 ≤ r) = true := decide_eq_true (by omega)
  have q6 : decide (r ≤ 222) = false := decide_eq_false (by omega)
  have q7 : (r == 215) = false := beq_eq_false_iff_ne.2 (by omega)
  have q7b : (r != 215) = true := by rw [bne, q7]; rfl
  have q8 : decide (913 ≤ r) = true := decide_eq_true (by omega)
  have q9 : decide (r ≤ 939) = false := decide_eq_false (by omega)
  have q10 : (r == 930) = false := beq_eq_false_iff_ne.2 (by omega)
  have q10b : (r != 930) = true := by rw [bne, q10]; rfl
  have q11 : decide (1040 ≤ r) = false := decide_eq_false (by omega)
  have q12 : decide (r ≤ 1071) = true := decide_eq_true (by omega)
  have q13 : decide (1024 ≤ r) = false := decide_eq_false (by omega)
  have q14 : decide (r ≤ 1039) = true := decide_eq_true (by omega)
  clear hlen h0 h1 hz
  unfold FoldGoal
  rw [HB.out, Lib.byteCells_append]
  clear HB h hBw
  go_enter Tryz.func63, Tryz.ntmps63
  go_wp2_with fail
  refine HW.out.mono ?_
  rintro e w1 ⟨rfl, h1, h2, h3⟩
  rw [← Lib.byteCells_encodeRune] at h1
  go_wp2
  go_end0
  exact ⟨rfl, .inr h1, h2, h3⟩
set_option maxHeartbeats 1000000 in
set_option maxRecDepth 100000 in
theorem fold_13 (B b : Nat) (l : List UInt8) (r : Int) (h0 : 963 ≤ r) (h1 : r ≤ 1023) (w : World) (h : Lib.IsBuilderF 72 5 B b (Lib.byteCells l) w) (hlen : l.length + 4 ≤ 140737488355328) (hBw : B ≤ w.heap.size) : FoldGoal B b l r w := by
  have HB := Lib.hid (foldB_no (r := r) (n := r) (by omega) (by omega) (by unfold foldR; rw [if_neg (by omega), if_neg (by omega), if_neg (by omega)]))
  have hz : (Lib.byteCells l).length = l.length := Lib.byteCells_length l
  have HW := Lib.hid (Tryz.Builder_WriteRune_k B b (Lib.byteCells l) (r) (by omega) (by omega) w h (by omega) hBw)
  have q0 : (r == 223) = false := beq_eq_false_iff_ne.2 (by omega)
  have q1 : (r == 7838) = false := beq_eq_false_iff_ne.2 (by omega)
  have q2 : (r == 962) = false := beq_eq_false_iff_ne.2 (by omega)
  have q3 : decide (65 ≤ r) = true := decide_eq_true (by omega)
  have q4 : decide (r ≤ 90) = false := decide_eq_false (by omega)
  have q5 : decide (192 ≤ r) = true := decide_eq_true (by omega)
  have q6 : decide (r ≤ 222) = false := decide_eq_false (by omega)
  have q7 : (r == 215) = false := beq_eq_false_iff_ne.2 (by omega)
  have q7b : (r != 215) = true := by rw [bne, q7]; rfl
  have q8 : decide (913 ≤ r) = true := decide_eq_true (by omega)
  have q9 : decide (r ≤ 939) = false := decide_eq_false (by omega)
  have q10 : (r == 930) = false := beq_eq_false_iff_ne.2 (by omega)
  have q10b : (r != 930) = true := by rw [bne, q10]; rfl
  have q11 : decide (1040 ≤ r) = false := decide_eq_false (by omega)
  have q12 : decide (r ≤ 1071) = true := decide_eq_true (by omega)
  have q13 : decide (1024 ≤ r) = false := decide_eq_false (by omega)
  have q14 : decide (r ≤ 1039) = true := decide_eq_true (by omega)
  clear hlen h0 h1 hz
  unfold FoldGoal
  rw [HB.out, Lib.byteCells_append]
  clear HB h hBw
  go_enter Tryz.func63, Tryz.ntmps63
  go_wp2_with fail
  refine HW.out.mono ?_
  rintro e w1 ⟨rfl, h1, h2, h3⟩
  rw [← Lib.byteCells_encodeRune] at h1
  go_wp2
  go_end0
  exact ⟨rfl, .inr h1, h2, h3⟩
set_option maxHeartbeats 1000000 in
set_option maxRecDepth 100000 in
theorem fold_14 (B b : Nat) (l : List UInt8) (r : Int) (h0 : 1024 ≤ r) (h1 : r ≤ 1039) (w : World) (h : Lib.IsBuilderF 72 5 B b (Lib.byteCells l) w) (hlen : l.length + 4 ≤ 140737488355328) (hBw : B ≤ w.heap.size) : FoldGoal B b l r w := by
  have HB := Lib.hid (foldB_no (r := r) (n := r + 80) (by omega) (by omega) (by unfold foldR; rw [if_neg (by omega), if_neg (by omega), if_pos (by omega)]))
  have hz : (Lib.byteCells l).length = l.length := Lib.byteCells_length l
  have HW := Lib.hid (Tryz.Builder_WriteRune_k B b (Lib.byteCells l) (r + 80) (by omega) (by omega) w h (by omega) hBw)
  have q0 : (r == 223) = false := beq_eq_false_iff_ne.2 (by omega)
  have q1 : (r == 7838) = false := beq_eq_false_iff_ne.2 (by omega)
  have q2 : (r == 962) = false := beq_eq_false_iff_ne.2 (by omega)
  have q3 : decide (65 ≤ r) = true := decide_eq_true (by omega)
  have q4 : decide (r ≤ 90) = false := decide_eq_false (by omega)
  have q5 : decide (192 ≤ r) = true := decide_eq_true (by omega)
  have q6 : decide (r ≤ 222) = false := decide_eq_false (by omega)
  have q7 : (r == 215) = false := beq_eq_false_iff_ne.2 (by omega)
  have q7b : (r != 215) = true := by rw [bne, q7]; rfl
  have q8 : decide (913 ≤ r) = true := decide_eq_true (by omega)
  have q9 : decide (r ≤ 939) = false := decide_eq_false (by omega)
  have q10 : (r == 930) = false := beq_eq_false_iff_ne.2 (by omega)
  have q10b : (r != 930) = true := by rw [bne, q10]; rfl
  have q11 : decide (1040 ≤ r) = false := decide_eq_false (by omega)
  have q12 : decide (r ≤ 1071) = true := decide_eq_true (by omega)
  have q13 : decide (1024 ≤ r) = true := decide_eq_true (by omega)
  have q14 : decide (r ≤ 1039) = true := decide_eq_true (by omega)
  have s0 : -2147483648 ≤ r + 80 := by omega
  have s1 : r + 80 ≤ 2147483647 := by omega
  have s2 : IntKind.i32.wrap (r + 80) = r + 80 := by rw [IntKind.wrap_i32]; omega
  clear hlen h0 h1 hz
  unfold FoldGoal
  rw [HB.out, Lib.byteCells_append]
  clear HB h hBw
  go_enter Tryz.func63, Tryz.ntmps63
  go_wp2_with fail
  refine HW.out.mono ?_
  rintro e w1 ⟨rfl, h1, h2, h3⟩
  rw [← Lib.byteCells_encodeRune] at h1
  go_wp2
  go_end0
  exact ⟨rfl, .inr h1, h2, h3⟩
set_option maxHeartbeats 1000000 in
set_option maxRecDepth 100000 in
theorem fold_15 (B b : Nat) (l : List UInt8) (r : Int) (h0 : 1040 ≤ r) (h1 : r ≤ 1071) (w : World) (h : Lib.IsBuilderF 72 5 B b (Lib.byteCells l) w) (hlen : l.length + 4 ≤ 140737488355328) (hBw : B ≤ w.heap.size) : FoldGoal B b l r w := by
  have HB := Lib.hid (foldB_no (r := r) (n := r + 32) (by omega) (by omega) (by unfold foldR; rw [if_neg (by omega), if_pos (by omega)]))
  have hz : (Lib.byteCells l).length = l.length := Lib.byteCells_length l
  have HW := Lib.hid (Tryz.Builder_WriteRune_k B b (Lib.byteCells l) (r + 32) (by omega) (by omega) w h (by omega) hBw)
  have q0 : (r == 223) = false := beq_eq_false_iff_ne.2 (by omega)
  have q1 : (r == 7838) = false := beq_eq_false_iff_ne.2 (by omega)
  have q2 : (r == 962) = false := beq_eq_false_iff_ne.2 (by omega)
  have q3 : decide (65 ≤ r) = true := decide_eq_true (by omega)
  have q4 : decide (r ≤ 90) = false := decide_eq_false (by omega)
  have q5 : decide (192 ≤ r) = true := decide_eq_true (by omega)
  have q6 : decide (r ≤ 222) = false := decide_eq_false (by omega)
  have q7 : (r == 215) = false := beq_eq_false_iff_ne.2 (by omega)
  have q7b : (r != 215) = true := by rw [bne, q7]; rfl
  have q8 : decide (913 ≤ r) = true := decide_eq_true (by omega)
  have q9 : decide (r ≤ 939) = false := decide_eq_false (by omega)
  have q10 : (r == 930) = false := beq_eq_false_iff_ne.2 (by omega)
  have q10b : (r != 930) = true := by rw [bne, q10]; rfl
  have q11 : decide (1040 ≤ r) = true := decide_eq_true (by omega)
  have q12 : decide (r ≤ 1071) = true := decide_eq_true (by omega)
  have q13 : decide (1024 ≤ r) = true := decide_eq_true (by omega)
  have q14 : decide (r ≤ 1039) = false := decide_eq_false (by omega)
  have s0 : -2147483648 ≤ r + 32 := by omega
  have s1 : r + 32 ≤ 2147483647 := by omega
  have s2 : IntKind.i32.wrap (r + 32) = r + 32 := by rw [IntKind.wrap_i32]; omega
  clear hlen h0 h1 hz
  unfold FoldGoal
  rw [HB.out, Lib.byteCells_append]
  clear HB h hBw
  go_enter Tryz.func63, Tryz.ntmps63
  go_wp2_with fail
  refine HW.out.mono ?_
  rintro e w1 ⟨rfl, h1, h2, h3⟩
  rw [← Lib.byteCells_encodeRune] at h1
  go_wp2
  go_end0
  exact ⟨rfl, .inr h1, h2, h3⟩
set_option maxHeartbeats 1000000 in
set_option maxRecDepth 100000 in
theorem fold_16 (B b : Nat) (l : List UInt8) (r : Int) (h0 : 1072 ≤ r) (h1 : r ≤ 7837) (w : World) (h : Lib.IsBuilderF 72 5 B b (Lib.byteCells l) w) (hlen : l.length + 4 ≤ 140737488355328) (hBw : B ≤ w.heap.size) : FoldGoal B b l r w := by
  have HB := Lib.hid (foldB_no (r := r) (n := r) (by omega) (by omega) (by unfold foldR; rw [if_neg (by omega), if_neg (by omega), if_neg (by omega)]))
  have hz : (Lib.byteCells l).length = l.length := Lib.byteCells_length l
  have HW := Lib.hid (Tryz.Builder_WriteRune_k B b (Lib.byteCells l) (r) (by omega) (by omega) w h (by omega) hBw)
  have q0 : (r == 223) = false := beq_eq_false_iff_ne.2 (by omega)
  have q1 : (r == 7838) = false := beq_eq_false_iff_ne.2 (by omega)
  have q2 : (r == 962) = false := beq_eq_false_iff_ne.2 (by omega)
  have q3 : decide (65 ≤ r) = true := decide_eq_true (by omega)
  have q4 : decide (r ≤ 90) = false := decide_eq_false (by omega)
  have q5 : decide (192 ≤ r) = true := decide_eq_true (by omega)
  have q6 : decide (r ≤ 222) = false := decide_eq_false (by omega)
  have q7 : (r == 215) = false := beq_eq_false_iff_ne.2 (by omega)
  have q7b : (r != 215) = true := by rw [bne, q7]; rfl
  have q8 : decide (913 ≤ r) = true := decide_eq_true (by omega)
  have q9 : decide (r ≤ 939) = false := decide_eq_false (by omega)
  have q10 : (r == 930) = false := beq_eq_false_iff_ne.2 (by omega)
  have q10b : (r != 930) = true := by rw [bne, q10]; rfl
  have q11 : decide (1040 ≤ r) = true := decide_eq_true (by omega)
  have q12 : decide (r ≤ 1071) = false := decide_eq_false (by omega)
  have q13 : decide (1024 ≤ r) = true := decide_eq_true (by omega)
  have q14 : decide (r ≤ 1039) = false := decide_eq_false (by omega)
  clear hlen h0 h1 hz
  unfold FoldGoal
  rw [HB.out, Lib.byteCells_append]
  clear HB h hBw
  go_enter Tryz.func63, Tryz.ntmps63
  go_wp2_with fail
  refine HW.out.mono ?_
  rintro e w1 ⟨rfl, h1, h2, h3⟩
  rw [← Lib.byteCells_encodeRune] at h1
  go_wp2
  go_end0
  exact ⟨rfl, .inr h1, h2, h3⟩
set_option maxHeartbeats 1000000 in
set_option maxRecDepth 100000 in
theorem fold_17 (B b : Nat) (l : List UInt8) (r : Int) (h0 : 7838 ≤ r) (h1 : r ≤ 7838) (w : World) (h : Lib.IsBuilderF 72 5 B b (Lib.byteCells l) w) (hlen : l.length + 4 ≤ 140737488355328) (hBw : B ≤ w.heap.size) : FoldGoal B b l r w := by
  have HB := Lib.hid (foldB_ss (r := r) (by omega))
  have hz : (Lib.byteCells l).length = l.length := Lib.byteCells_length l
  have HW := Lib.hid (Tryz.Builder_WriteString_k B b (Lib.byteCells l) ⟨#[115, 115]⟩ w h (by show _ + 2 ≤ _; omega) hBw)
  have q0 : (r == 223) = false := beq_eq_false_iff_ne.2 (by omega)
  have q1 : (r == 7838) = true := beq_iff_eq.2 (by omega)
  have q2 : (r == 962) = false := beq_eq_false_iff_ne.2 (by omega)
  have q3 : decide (65 ≤ r) = true := decide_eq_true (by omega)
  have q4 : decide (r ≤ 90) = false := decide_eq_false (by omega)
  have q5 : decide (192 ≤ r) = true := decide_eq_true (by omega)
  have q6 : decide (r ≤ 222) = false := decide_eq_false (by omega)
  have q7 : (r == 215) = false := beq_eq_false_iff_ne.2 (by omega)
  have q7b : (r != 215) = true := by rw [bne, q7]; rfl
  have q8 : decide (913 ≤ r) = true := decide_eq_true (by omega)
  have q9 : decide (r ≤ 939) = false := decide_eq_false (by omega)
  have q10 : (r == 930) = false := beq_eq_false_iff_ne.2 (by omega)
  have q10b : (r != 930) = true := by rw [bne, q10]; rfl
  have q11 : decide (1040 ≤ r) = true := decide_eq_true (by omega)
  have q12 : decide (r ≤ 1071) = false := decide_eq_false (by omega)
  have q13 : decide (1024 ≤ r) = true := decide_eq_true (by omega)
  have q14 : decide (r ≤ 1039) = false := decide_eq_false (by omega)
  clear hlen h0 h1 hz
  unfold FoldGoal
  rw [HB.out, Lib.byteCells_append]
  clear HB h hBw
  go_enter Tryz.func63, Tryz.ntmps63
  go_wp2_with fail
  refine HW.out.mono ?_
  rintro e w1 ⟨rfl, h1, h2, h3⟩
  go_wp2
  repeat (first | refine ex_noGoto_ret ?_ | refine ex_block_ret ?_ | refine ex_then_ret ?_)
  refine bodyPost_ret (results_none rfl _ _ _) rfl ?_
  exact ⟨rfl, .inr h1, h2, h3⟩
set_option maxHeartbeats 1000000 in
set_option maxRecDepth 100000 in
theorem fold_18 (B b : Nat) (l : List UInt8) (r : Int) (h0 : 7839 ≤ r) (h1 : r ≤ 1114111) (w : World) (h : Lib.IsBuilderF 72 5 B b (Lib.byteCells l) w) (hlen : l.length + 4 ≤ 140737488355328) (hBw : B ≤ w.heap.size) : FoldGoal B b l r w := by
  have HB := Lib.hid (foldB_no (r := r) (n := r) (by omega) (by omega) (by unfold foldR; rw [if_neg (by omega), if_neg (by omega), if_neg (by omega)]))
  have hz : (Lib.byteCells l).length = l.length := Lib.byteCells_length l
  have HW := Lib.hid (Tryz.Builder_WriteRune_k B b (Lib.byteCells l) (r) (by omega) (by omega) w h (by omega) hBw)
  have q0 : (r == 223) = false := beq_eq_false_iff_ne.2 (by omega)
  have q1 : (r == 7838) = false := beq_eq_false_iff_ne.2 (by omega)
  have q2 : (r == 962) = false := beq_eq_false_iff_ne.2 (by omega)
  have q3 : decide (65 ≤ r) = true := decide_eq_true (by omega)
  have q4 : decide (r ≤ 90) = false := decide_eq_false (by omega)
  have q5 : decide (192 ≤ r) = true := decide_eq_true (by omega)
  have q6 : decide (r ≤ 222) = false := decide_eq_false (by omega)
  have q7 : (r == 215) = false := beq_eq_false_iff_ne.2 (by omega)
  have q7b : (r != 215) = true := by rw [bne, q7]; rfl
  have q8 : decide (913 ≤ r) = true := decide_eq_true (by omega)
  have q9 : decide (r ≤ 939) = false := decide_eq_false (by omega)
  have q10 : (r == 930) = false := beq_eq_false_iff_ne.2 (by omega)
  have q10b : (r != 930) = true := by rw [bne, q10]; rfl
  have q11 : decide (1040 ≤ r) = true := decide_eq_true (by omega)
  have q12 : decide (r ≤ 1071) = false := decide_eq_false (by omega)
  have q13 : decide (1024 ≤ r) = true := decide_eq_true (by omega)
  have q14 : decide (r ≤ 1039) = false := decide_eq_false (by omega)
  clear hlen h0 h1 hz
  unfold FoldGoal
  rw [HB.out, Lib.byteCells_append]
  clear HB h hBw
  go_enter Tryz.func63, Tryz.ntmps63
  go_wp2_with fail
  refine HW.out.mono ?_
  rintro e w1 ⟨rfl, h1, h2, h3⟩
  rw [← Lib.byteCells_encodeRune] at h1
  go_wp2
  go_end0
  exact ⟨rfl, .inr h1, h2, h3⟩
theorem fold_walk (B b : Nat) (l : List UInt8) (r : Int) (hr0 : 0 ≤ r) (hr1 : r ≤ 1114111) (w : World) (h : Lib.IsBuilderF 72 5 B b (Lib.byteCells l) w) (hlen : l.length + 4 ≤ 140737488355328) (hBw : B ≤ w.heap.size) : FoldGoal B b l r w := by
  by_cases c0 : r ≤ 64
  · exact fold_0 B b l r (by omega) (by omega) w h hlen hBw
  by_cases c1 : r ≤ 90
  · exact fold_1 B b l r (by omega) (by omega) w h hlen hBw
  by_cases c2 : r ≤ 191
  · exact fold_2 B b l r (by omega) (by omega) w h hlen hBw
  by_cases c3 : r ≤ 214
  · exact fold_3 B b l r (by omega) (by omega) w h hlen hBw
  by_cases c4 : r ≤ 215
  · exact fold_4 B b l r (by omega) (by omega) w h hlen hBw
  by_cases c5 : r ≤ 222
  · exact fold_5 B b l r (by omega) (by omega) w h hlen hBw
  by_cases c6 : r ≤ 223
  · exact fold_6 B b l r (by omega) (by omega) w h hlen hBw
  by_cases c7 : r ≤ 912
  · exact fold_7 B b l r (by omega) (by omega) w h hlen hBw
  by_cases c8 : r ≤ 929
  · exact fold_8 B b l r (by omega) (by omega) w h hlen hBw
  by_cases c9 : r ≤ 930
  · exact fold_9 B b l r (by omega) (by omega) w h hlen hBw
  by_cases c10 : r ≤ 939
  · exact fold_10 B b l r (by omega) (by omega) w h hlen hBw
  by_cases c11 : r ≤ 961
  · exact fold_11 B b l r (by omega) (by omega) w h hlen hBw
  by_cases c12 : r ≤ 962
  · exact fold_12 B b l r (by omega) (by omega) w h hlen hBw
  by_cases c13 : r ≤ 1023
  · exact fold_13 B b l r (by omega) (by omega) w h hlen hBw
  by_cases c14 : r ≤ 1039
  · exact fold_14 B b l r (by omega) (by omega) w h hlen hBw
  by_cases c15 : r ≤ 1071
  · exact fold_15 B b l r (by omega) (by omega) w h hlen hBw
  by_cases c16 : r ≤ 7837
  · exact fold_16 B b l r (by omega) (by omega) w h hlen hBw
  by_cases c17 : r ≤ 7838
  · exact fold_17 B b l r (by omega) (by omega) w h hlen hBw
  exact fold_18 B b l r (by omega) hr1 w h hlen hBw
end Go.Proofs.YtekifcbokdidlaaGreatDoor.PA

namespace Go.Proofs.YtekifcbokdidlaaGreatDoor.PA
open Go.RowKit Go.Proofs.YtekifcbokdidlaaGreatDoorW.PrintWords Go.Proofs.YtekifcbokdidlaaGreatDoorW.PrintLast Go.Proofs.YtekifcbokdidlaaGreatDoorW.PrintMore Go.Proofs.YtekifcbokdidlaaGreatDoor.Pl
set_option linter.unusedVariables false

/-- Characters without capitals, as bytes. -/
def foldL (rs : List Int) : List UInt8 := rs.flatMap foldB
theorem foldL_snoc (rs : List Int) (r : Int) : foldL (rs ++ [r]) = foldL rs ++ foldB r := by unfold foldL; rw [List.flatMap_append]; simp
theorem foldB_len (r : Int) : (foldB r).length ≤ 4 := by
  unfold foldB
  split
  · decide
  · have := Lib.runeCells_le (foldR r)
    rw [Lib.runeCells_length] at this
    exact this.2
theorem foldL_len (rs : List Int) : (foldL rs).length ≤ 4 * rs.length := by
  induction rs with
  | nil => exact Nat.le_refl _
  | cons r rs ih =>
    have := foldB_len r
    unfold foldL at ih ⊢
    rw [List.flatMap_cons, List.length_append, List.length_cons]
    omega
theorem R_others {w w1 : World} {b base : Nat} {v : Value} {xs : List Int} (h : Kd.R (Kd.int .i32) 21 w base (fun _ => True) v xs) (hb : b < base) (hk : Lib.OthersKept 5 (some b) w w1) : Kd.R (Kd.int .i32) 21 w1 base (fun _ => True) v xs := by
  have h1 := Kd.R_bound h
  refine Kd.R_mono (Kd.R_step h1 (fun k hk1 hlt => ?_)) (fun _ _ => trivial)
  obtain ⟨_, hbk, _, q, hq, cells, hc⟩ := hk1
  have hq2 : q = 21 := by simpa [Kd.int, Kd.scalar] using hq
  subst hq2
  rw [hc]
  exact hk k _ hc (fun e => by have := Option.some.inj e; omega) (fun c fz e => by cases e)
theorem rune_cell {w : World} {base : Nat} {A : Option Addr} {n c : Nat} {xs : List Int} (h : Kd.R (Kd.int .i32) 21 w base (fun _ => True) (.slice A n c) xs) (k : Nat) (hk : k < xs.length) :
    ∃ g, A = some ⟨g, 0, none⟩ ∧ w.cell? ⟨g, k, none⟩ = some (.int .i32 (xs.getD k 0)) := by
  obtain ⟨g, cap, e, _, _, _⟩ := Kd.R_form h (by omega)
  cases e
  obtain ⟨_, _, hC⟩ := Kd.R_reads' h
  obtain ⟨ad, cs, e2, hl, hr, hcell⟩ := Kd.C_get hC 0 (k : Int) (by omega) (by omega)
  cases e2
  refine ⟨g, rfl, ?_⟩
  have hr' : cs = [.int .i32 (xs.getD k 0)] := hr
  subst hr'
  have := hcell 0 _ rfl
  rcases Nat.eq_zero_or_pos k with rfl | hp
  · simpa [Addr.add, Kd.int, Kd.scalar] using this
  · have hne : ¬ k = 0 := by omega
    simpa [Addr.add, Kd.int, Kd.scalar, hne] using this
set_option maxHeartbeats 4000000 in
set_option maxRecDepth 100000 in
theorem Fold_walk (s : ByteArray) (w : World) (hLd : Laid w) (hs : s.size ≤ 1073741824) :
    Calls Tryz.prog 38 #[.string s] w fun e w' => e = .returned (.string (B (foldL (chars (clean s.data.toList))))) ∧ Below w.heap.size w w' := by
  have hl : s.data.toList.length = s.size := by rw [Array.length_toList]; rfl
  obtain ⟨hcv, hcn, _⟩ := chars_clean s.data.toList
  have hf : text_Runes.f s = some (chars (clean s.data.toList)) := by
    unfold text_Runes.f
    rw [if_pos (by omega), rns_chars]
  have HR := Lib.hid (fun W hW => text_Runes.calls s (chars (clean s.data.toList)) W hW hf)
  obtain ⟨rs, hrs⟩ : ∃ rs, chars (clean s.data.toList) = rs := ⟨_, rfl⟩
  rw [hrs] at HR hcv hcn ⊢
  have HV := Lib.hid hcv
  have hn : rs.length ≤ 1073741824 := by omega
  have HLd := Lib.hid hLd
  clear hf hrs hcv hcn hl hs hLd
  go_enter Tryz.func38, Tryz.ntmps38
  go_wp2_with fail
  have HB0 := Lib.hid ((Below.refl w.heap.size w).alloc (Nat.le_refl _) (.cells #[.pointer none, .slice none 0 0] 72 (0, 0)))
  have HI0 := Lib.hid (Lib.fresh_isBuilder 72 5 w)
  refine (HR.out _ (HLd.out.go HB0.out)).mono ?_
  rintro e w1 ⟨v0, rfl, hR, hb1⟩
  obtain ⟨A, c, rfl, hc, _⟩ := Kd.R_reads hR
  rw [World.size_alloc] at hR hb1
  have HI1 := Lib.hid (Lib.IsBuilderF.of (isB_below HI0.out (by rw [World.size_alloc]; exact hb1)))
  have HB1 := Lib.hid (HB0.out.trans (hb1.mono (Nat.le_succ _)))
  have HRr := Lib.hid hR
  have hsz := hb1.size
  clear hR hb1 HI0 HB0 HR HLd hc
  go_wp2
  go_loopw [9] (fun vi wr => ∃ k : Nat, vi = .int .i64 k ∧ k ≤ rs.length ∧ Hid (Lib.IsBuilderF 72 5 w.heap.size w.heap.size (Lib.byteCells (foldL (rs.take k))) wr) ∧ Hid (Below w.heap.size w wr) ∧ Hid (Kd.R (Kd.int .i32) 21 wr (w.heap.size + 1) (fun _ => True) (.slice A rs.length c) rs))
    (fun vi _ => rs.length - (intOf vi).toNat)
  case atStart => exact ⟨0, rfl, Nat.zero_le _, HI1, HB1, HRr⟩
  case round =>
    obtain ⟨k, rfl, hk, HI, HB, HRk⟩ := hrel
    clear HI1 HB1 HRr
    by_cases hkn : k < rs.length
    · obtain ⟨g, rfl, hcell⟩ := rune_cell HRk.out k hkn
      obtain ⟨x, hx⟩ : ∃ x, rs.getD k 0 = x := ⟨_, rfl⟩
      have hxm : x ∈ rs := by rw [← hx, List.getD_eq_getElem?_getD, List.getElem?_eq_getElem hkn]; exact List.getElem_mem hkn
      have htk : rs.take (k + 1) = rs.take k ++ [x] := by
        rw [← hx, List.getD_eq_getElem?_getD, List.getElem?_eq_getElem hkn]
        exact (List.take_append_getElem hkn).symm
      obtain ⟨hv0, hv1, _⟩ := HV.out x hxm
      rw [hx] at hcell
      have hfl := foldL_len (rs.take k)
      rw [List.length_take] at hfl
      have hbs := HB.out.size
      have HF := Lib.hid (fold_walk w.heap.size w.heap.size (foldL (rs.take k)) x (by omega) (by omega) wr HI.out (by omega) hbs)
      unfold FoldGoal at HF
      rw [← foldL_snoc, ← htk] at HF
      have HT := Lib.hid hk
      clear hx hxm htk hv0 hv1 hfl HI
      go_wp2_with fail
      refine HF.out.mono ?_
      rintro e w2 ⟨rfl, hI2, hB2, hK2⟩
      have HI2 := Lib.hid hI2
      have HB2 := Lib.hid (HB.out.trans hB2)
      have HR2 := Lib.hid (R_others HRk.out (Nat.lt_succ_self _) hK2)
      clear hI2 hB2 hK2 HF HB HRk hcell hbs
      go_wp2
      go_roundw
      case rel => exact ⟨k + 1, by go_num, by omega, HI2, HB2, HR2⟩
      case measure => simp [intOf]; omega
    · have hI := HI.out
      rw [List.take_of_length_le (by omega)] at hI
      have HI2 := Lib.hid hI
      have hbs := HB.out.size
      clear hI HI HRk
      go_wp2_with fail
      refine (Tryz.Builder_String_any_f w.heap.size w.heap.size (foldL rs) _ HI2.out hbs).mono ?_
      rintro e w2 ⟨rfl, h2⟩
      go_wp2
      go_ret
      exact ⟨rfl, by first | exact HB.out.trans h2 | exact HB.out.trans h2.2⟩
end Go.Proofs.YtekifcbokdidlaaGreatDoor.PA

namespace Go.Proofs.YtekifcbokdidlaaGreatDoor.PA
open Go.RowKit Go.Shelf Go.Proofs.YtekifcbokdidlaaGreatDoor.Pl Go.Proofs.YtekifcbokdidlaaGreatDoorW.PrintWords Go.Proofs.YtekifcbokdidlaaGreatDoorW.PrintLast Go.Proofs.YtekifcbokdidlaaGreatDoorW.PrintMore
set_option linter.unusedVariables false

/-- strings.Join of what is read. -/
def strings_Join.f (l0 : List ByteArray) (a1 : ByteArray) : Option ByteArray := if l0.length ≤ 1048576 ∧ (Lib.join (l0.map (·.data.toList)) a1.data.toList).length ≤ 140737488355328 then some ⟨(Lib.join (l0.map (·.data.toList)) a1.data.toList).toArray⟩ else none
theorem strings_Join.calls (A0 : Option Addr) (c0 : Nat) (l0 : List ByteArray) (a1 : ByteArray) (r : ByteArray) (w : World) (hr0 : Kd.C Kd.string w A0 l0.length l0) (hc0 : l0.length ≤ c0) (h : strings_Join.f l0 a1 = some r) :
    Calls Tryz.prog 39 #[.slice A0 l0.length c0, .string a1] w fun e w' => e = .returned (.string r) ∧ Below w.heap.size w w' := by
  unfold strings_Join.f at h
  split at h
  · rename_i hc
    obtain rfl := Option.some.inj h
    rcases Nat.eq_zero_or_pos l0.length with h0 | h0
    · obtain rfl := List.length_eq_zero_iff.1 h0
      refine (Tryz.strings_Join_none A0 c0 a1 w).mono ?_
      rintro e w' ⟨rfl, rfl⟩
      exact ⟨rfl, Below.refl _ _⟩
    · obtain ⟨ad, rfl, h1⟩ := Kd.at_string hr0 0 (by omega) (by omega)
      have hsp : ad.spot = none ∧ ad.block < w.heap.size := by
        have h2 : w.cell? ad ≠ none := by
          intro e
          have e2 : ad.add (0 : Int).toNat = ad := rfl
          rw [e2, e] at h1
          cases h1
        unfold World.cell? at h2
        cases hq : w.heap[ad.block]? with
        | none => rw [hq] at h2; exact absurd rfl h2
        | some ob =>
          refine ⟨?_, (Array.getElem?_eq_some_iff.1 hq).1⟩
          rw [hq] at h2
          cases ob <;> first | exact absurd rfl h2 | skip
          cases hs : ad.spot with
          | none => rfl
          | some y => simp [hs] at h2
      obtain ⟨bk, o, q⟩ := ad
      obtain rfl : q = none := hsp.1
      refine Tryz.strings_Join bk o c0 l0 a1 w (fun j x hj => ?_) hsp.2 (by omega) hc0 hc.2
      have hjl : j < l0.length := (List.getElem?_eq_some_iff.1 hj).1
      obtain ⟨ad2, e2, h3⟩ := Kd.at_string hr0 (j : Int) (by omega) (by omega)
      cases e2
      rw [getD_at l0 j hjl, Int.toNat_natCast] at h3
      rw [List.getElem?_eq_getElem hjl] at hj
      cases hj
      rw [← h3]
      unfold Addr.add
      split
      · rename_i e0
        subst e0
        rfl
      · rfl
  · cases h
end Go.Proofs.YtekifcbokdidlaaGreatDoor.PA

namespace Go.Proofs.YtekifcbokdidlaaGreatDoor.Pl
open Go.RowKit Go.Proofs.YtekifcbokdidlaaGreatDoorW.PrintWords Go.Proofs.YtekifcbokdidlaaGreatDoorW.PrintMore

/-- Is a byte white space? -/
def whB (x : UInt8) : Bool := decide (x.toNat = 32) || (decide (9 ≤ x.toNat) && decide (x.toNat ≤ 13))
/-- Is a character white space? -/
def whR (r : Nat) : Bool := decide (r = 32) || (decide (9 ≤ r) && decide (r ≤ 13))
/-- A text's fields; what has come of this one, what is left. -/
def fl : List UInt8 → List UInt8 → List (List UInt8)
  | cur, [] => if cur = [] then [] else [cur]
  | cur, x :: t => if whB x = true then (if cur = [] then fl [] t else cur :: fl [] t) else fl (cur ++ [x]) t
/-- Fields with one blank between them. -/
def jn : List (List UInt8) → List UInt8
  | [] => []
  | [x] => x
  | x :: y :: r => x ++ 32 :: jn (y :: r)
def nw (a : List UInt8) : Prop := ∀ x ∈ a, whB x = false
theorem nw_nil : nw [] := fun _ h => by cases h
theorem fl_none : ∀ (a cur : List UInt8), nw a → fl cur a = if cur ++ a = [] then [] else [cur ++ a]
  | [], cur, _ => by rw [List.append_nil]; rfl
  | x :: a, cur, h => by
    have hx := h x (by simp)
    rw [fl, if_neg (by rw [hx]; decide), fl_none a _ (fun y hy => h y (by simp [hy])), List.append_assoc]
    rfl
theorem fl_cut : ∀ (a cur r : List UInt8) (w : UInt8), nw a → whB w = true → fl cur (a ++ w :: r) = if cur ++ a = [] then fl [] r else (cur ++ a) :: fl [] r
  | [], cur, r, w, _, hw => by rw [List.nil_append, fl, if_pos hw, List.append_nil]
  | x :: a, cur, r, w, h, hw => by
    have hx := h x (by simp)
    rw [List.cons_append, fl, if_neg (by rw [hx]; decide), fl_cut a _ r w (fun y hy => h y (by simp [hy])) hw, List.append_assoc]
    rfl
/-- A text is without white space, or has a first one. -/
theorem white_split : ∀ s : List UInt8, nw s ∨ ∃ a w r, s = a ++ w :: r ∧ nw a ∧ whB w = true
  | [] => .inl nw_nil
  | x :: t => by
    cases hx : whB x with
    | true => exact .inr ⟨[], x, t, rfl, nw_nil, hx⟩
    | false =>
      rcases white_split t with h | ⟨a, w, r, rfl, ha, hw⟩
      · exact .inl (fun y hy => by rcases List.mem_cons.1 hy with rfl | hy; exact hx; exact h y hy)
      · exact .inr ⟨x :: a, w, r, rfl, fun y hy => by rcases List.mem_cons.1 hy with rfl | hy; exact hx; exact ha y hy, hw⟩
theorem whB_lt {w : UInt8} (h : whB w = true) : w.toNat < 128 ∧ w ≠ 0 := by
  unfold whB at h
  simp only [Bool.or_eq_true, Bool.and_eq_true, decide_eq_true_eq] at h
  refine ⟨by omega, ?_⟩
  rintro rfl
  rcases h with h | h
  · cases h
  · exact absurd h.1 (by decide)
/-! #### cleaning -/
theorem dec_cut (a : List UInt8) (w : UInt8) (r : List UInt8) (hw : w.toNat < 128) (ha : a ≠ []) : dec (a ++ w :: r) = dec a := by
  rw [dec_eq _ (by simp), dec_eq a ha]
  have h2 : ¬ w.toNat / 64 = 2 := by omega
  match a, ha with
  | [x], _ => simp [Lib.decodeN, h2]
  | [x, y], _ => simp [Lib.decodeN, h2]
  | [x, y, z], _ => simp [Lib.decodeN, h2]
  | x :: y :: z :: u :: t, _ =>
    have h3 : 1 < (x :: y :: z :: u :: t ++ w :: r).length ∧ 2 < (x :: y :: z :: u :: t ++ w :: r).length ∧ 3 < (x :: y :: z :: u :: t ++ w :: r).length := by simp
    have h4 : 1 < (x :: y :: z :: u :: t).length ∧ 2 < (x :: y :: z :: u :: t).length ∧ 3 < (x :: y :: z :: u :: t).length := by simp
    simp only [Lib.decodeN, h3, h4]
    simp
theorem clean_cut : ∀ (n : Nat) (a : List UInt8), a.length ≤ n → ∀ (w : UInt8) (r : List UInt8), w.toNat < 128 → clean (a ++ w :: r) = clean a ++ clean (w :: r) := by
  intro n
  induction n with
  | zero =>
    intro a ha w r _
    obtain rfl := List.length_eq_zero_iff.1 (Nat.le_zero.1 ha)
    rfl
  | succ n ih =>
    intro a ha w r hw
    cases a with
    | nil => rfl
    | cons x t =>
      rw [List.length_cons] at ha
      have hd := dec_cut (x :: t) w r hw (by simp)
      have hl := dec_len (x :: t) (by simp)
      rw [List.cons_append] at hd ⊢
      by_cases hb : x = 0 ∨ ((dec (x :: t)).2 = 1 ∧ 128 ≤ x.toNat)
      · rw [clean_bad x (t ++ w :: r) (by rw [hd]; exact hb), clean_bad x t hb, ih t (by omega) w r hw, List.append_assoc]
      · rw [clean_good x (t ++ w :: r) (by rw [hd]; exact hb), clean_good x t hb, hd, ← List.cons_append, List.take_append_of_le_length hl.2, List.drop_append_of_le_length hl.2,
          ih _ (by rw [List.length_drop, List.length_cons]; omega) w r hw, List.append_assoc]
theorem clean_w (w : UInt8) (r : List UInt8) (hw : w.toNat < 128) (h0 : w ≠ 0) : clean (w :: r) = w :: clean r := by
  have hd : dec (w :: r) = (w.toNat, 1) := by
    rw [dec_eq _ (by simp)]
    unfold Lib.decodeN
    rw [List.getD_cons_zero, if_pos hw]
  rw [clean_good w r (by rintro (e | e); exact h0 e; omega), hd]
  rfl
theorem clean_mem : ∀ (n : Nat) (a : List UInt8), a.length ≤ n → ∀ x ∈ clean a, x ∈ a ∨ 128 ≤ x.toNat := by
  intro n
  induction n with
  | zero =>
    intro a ha x hx
    obtain rfl := List.length_eq_zero_iff.1 (Nat.le_zero.1 ha)
    cases hx
  | succ n ih =>
    intro a ha x hx
    cases a with
    | nil => cases hx
    | cons y t =>
      rw [List.length_cons] at ha
      have hl := dec_len (y :: t) (by simp)
      by_cases hb : y = 0 ∨ ((dec (y :: t)).2 = 1 ∧ 128 ≤ y.toNat)
      · rw [clean_bad y t hb] at hx
        rcases List.mem_append.1 hx with hx | hx
        · right
          simp only [List.mem_cons, List.not_mem_nil, or_false] at hx
          rcases hx with rfl | rfl | rfl <;> decide
        · rcases ih t (by omega) x hx with h | h
          · exact .inl (List.mem_cons_of_mem _ h)
          · exact .inr h
      · rw [clean_good y t hb] at hx
        rcases List.mem_append.1 hx with hx | hx
        · exact .inl (List.mem_of_mem_take hx)
        · rcases ih _ (by rw [List.length_drop, List.length_cons]; omega) x hx with h | h
          · exact .inl (List.mem_of_mem_drop h)
          · exact .inr h
theorem clean_nw (a : List UInt8) (h : nw a) : nw (clean a) := by
  intro x hx
  rcases clean_mem a.length a (Nat.le_refl _) x hx with h1 | h1
  · exact h x h1
  · cases hw : whB x with
    | false => rfl
    | true => exact absurd (whB_lt hw).1 (by omega)
theorem clean_ne (a : List UInt8) (h : a ≠ []) : clean a ≠ [] := by
  obtain ⟨c, l', hc, e, _⟩ := clean_step a h
  rw [e]
  intro e2
  exact hc.ne (List.append_eq_nil_iff.1 e2).1
theorem fl_clean : ∀ (n : Nat) (s : List UInt8), s.length ≤ n → fl [] (clean s) = (fl [] s).map clean := by
  intro n
  induction n with
  | zero =>
    intro s hs
    obtain rfl := List.length_eq_zero_iff.1 (Nat.le_zero.1 hs)
    rfl
  | succ n ih =>
    intro s hs
    rcases white_split s with h | ⟨a, w, r, rfl, ha, hw⟩
    · rw [fl_none s [] h, fl_none (clean s) [] (clean_nw s h), List.nil_append, List.nil_append]
      by_cases h0 : s = []
      · rw [h0]; rfl
      · rw [if_neg (clean_ne s h0), if_neg h0]
        rfl
    · obtain ⟨hw1, hw2⟩ := whB_lt hw
      rw [List.length_append, List.length_cons] at hs
      rw [clean_cut a.length a (Nat.le_refl _) w r hw1, clean_w w r hw1 hw2, fl_cut (clean a) [] (clean r) w (clean_nw a ha) hw, fl_cut a [] r w ha hw, List.nil_append, List.nil_append, ih r (by omega)]
      by_cases h0 : a = []
      · rw [h0]; rfl
      · rw [if_neg (clean_ne a h0), if_neg h0]
        rfl
theorem jn_clean : ∀ fs : List (List UInt8), clean (jn fs) = jn (fs.map clean)
  | [] => rfl
  | [x] => rfl
  | x :: y :: r => by
    rw [jn, clean_cut x.length x (Nat.le_refl _) 32 _ (by decide), clean_w 32 _ (by decide) (by decide), jn_clean (y :: r)]
    rfl
/-- Cleaning and cutting at white space go in either order. -/
theorem lab_comm (s : List UInt8) : clean (jn (fl [] s)) = jn (fl [] (clean s)) := by rw [jn_clean, fl_clean s.length s (Nat.le_refl _)]
/-! #### the reference's way -/
/-! #### strings.FieldsFunc -/
theorem dec_lo (x : UInt8) (t : List UInt8) (h : x.toNat < 128) : dec (x :: t) = (x.toNat, 1) := by
  rw [dec_eq _ (by simp)]
  unfold Lib.decodeN
  rw [List.getD_cons_zero, if_pos h]
theorem take_le2 {x : UInt8} {t : List UInt8} {y : UInt8} {n : Nat} (hy : y ∈ (x :: t).take n) (hn : n ≤ 4) (h0 : 128 ≤ x.toNat) (h1 : 1 < n → 128 ≤ (t.getD 0 0).toNat) (h2 : 2 < n → 128 ≤ (t.getD 1 0).toNat) (h3 : 3 < n → 128 ≤ (t.getD 2 0).toNat) : 128 ≤ y.toNat := by
  obtain ⟨i, hi, rfl⟩ := List.getElem_of_mem hy
  rw [List.length_take] at hi
  rw [List.getElem_take]
  match i, hi with
  | 0, _ => exact h0
  | 1, hi =>
    have hl : 0 < t.length := by simp at hi; omega
    have := h1 (by simp at hi; omega)
    rw [List.getD_eq_getElem?_getD, List.getElem?_eq_getElem hl] at this
    exact this
  | 2, hi =>
    have hl : 1 < t.length := by simp at hi; omega
    have := h2 (by simp at hi; omega)
    rw [List.getD_eq_getElem?_getD, List.getElem?_eq_getElem hl] at this
    exact this
  | 3, hi =>
    have hl : 2 < t.length := by simp at hi; omega
    have := h3 (by simp at hi; omega)
    rw [List.getD_eq_getElem?_getD, List.getElem?_eq_getElem hl] at this
    exact this
  | i + 4, hi => simp at hi; omega
theorem dec_hi (x : UInt8) (t : List UInt8) (h : 128 ≤ x.toNat) : 128 ≤ (dec (x :: t)).1 ∧ nw ((x :: t).take (dec (x :: t)).2) := by
  have e := dec_eq (x :: t) (by simp)
  obtain ⟨c1, c2, c3, c4, _⟩ := dn_cont (x :: t).length ((x :: t).getD 0 0).toNat ((x :: t).getD 1 0).toNat ((x :: t).getD 2 0).toNat ((x :: t).getD 3 0).toNat
  rw [← e] at c1 c2 c3 c4
  simp only [List.getD_cons_succ] at c1 c2 c3
  constructor
  · rw [e]
    rcases Lib.decodeN_shape (x :: t).length ((x :: t).getD 0 0).toNat ((x :: t).getD 1 0).toNat ((x :: t).getD 2 0).toNat ((x :: t).getD 3 0).toNat with ⟨c, e1⟩ | ⟨_, _, _, cv, e1⟩ | ⟨_, _, _, _, cv, _, e1⟩ | ⟨_, _, _, _, _, cv, _, e1⟩ | e1
    · rw [List.getD_cons_zero] at c
      omega
    · rw [e1]; exact cv
    · rw [e1]; exact Nat.le_trans (by decide) cv
    · rw [e1]; exact Nat.le_trans (by decide) cv
    · rw [e1]; decide
  · intro y hy
    have := take_le2 hy c4 h (fun hn => by have := (c1 hn).2; omega) (fun hn => by have := (c2 hn).2; omega) (fun hn => by have := (c3 hn).2; omega)
    cases hw : whB y with
    | false => rfl
    | true => exact absurd (whB_lt hw).1 (by omega)
theorem fl_nw : ∀ (a cur r : List UInt8), nw a → fl cur (a ++ r) = fl (cur ++ a) r
  | [], cur, r, _ => by rw [List.nil_append, List.append_nil]
  | x :: a, cur, r, h => by
    have hx := h x (by simp)
    rw [List.cons_append, fl, if_neg (by rw [hx]; decide), fl_nw a _ r (fun y hy => h y (by simp [hy])), List.append_assoc]
    rfl
/-- What has come of the field that is open. -/
def opn (s : List UInt8) (st : Option Nat) (pos : Nat) : List UInt8 :=
  match st with
  | none => []
  | some a => (s.drop a).take (pos - a)
def pcs (s : List UInt8) (acc : List (Nat × Nat)) : List (List UInt8) := acc.map fun x => (s.drop x.1).take (x.2 - x.1)
theorem decode_drop (s : List UInt8) (pos : Nat) (h : pos < s.length) : Utf8.decode (B s) pos = dec (s.drop pos) := by
  have := Lib.tail_decode (B s) pos 0
  rw [Nat.add_zero, B_from s pos _ (B_size s)] at this
  rw [← this]
  exact dec_L _ (by intro e; have := congrArg List.length e; rw [List.length_drop] at this; simp at this; omega)
theorem whR_lo (x : UInt8) : whR x.toNat = whB x := rfl
theorem whR_hi {r : Nat} (h : 128 ≤ r) : whR r = false := by
  unfold whR
  rw [decide_eq_false (by omega), decide_eq_false (show ¬ r ≤ 13 by omega), Bool.and_false]
  rfl
theorem opn_go (s : List UInt8) (st : Option Nat) (pos n : Nat) (h : ∀ a, st = some a → a ≤ pos) (hn : pos + n ≤ s.length) : opn s (some (st.getD pos)) (pos + n) = opn s st pos ++ (s.drop pos).take n := by
  cases st with
  | none =>
    show (s.drop pos).take (pos + n - pos) = _
    rw [show pos + n - pos = n by omega]
    rfl
  | some a =>
    have ha := h a rfl
    show (s.drop a).take (pos + n - a) = (s.drop a).take (pos - a) ++ _
    rw [show pos + n - a = (pos - a) + n by omega, List.take_add, List.drop_drop, show a + (pos - a) = pos by omega]
def accOf (st : Option Nat) (pos : Nat) (acc : List (Nat × Nat)) : List (Nat × Nat) :=
  match st with
  | some a => acc ++ [(a, pos)]
  | none => acc
theorem spans_step (p : Nat → Bool) (s : ByteArray) (f pos : Nat) (st : Option Nat) (acc : List (Nat × Nat)) (h : pos < s.size) :
    Lib.spansFromP p s (f + 1) pos st acc = if p (Utf8.decode s pos).1 = true then Lib.spansFromP p s f (pos + (Utf8.decode s pos).2) none (accOf st pos acc) else Lib.spansFromP p s f (pos + (Utf8.decode s pos).2) (some (st.getD pos)) acc := by
  cases st <;> simp [Lib.spansFromP, h, accOf]
theorem spans_l (s : List UInt8) : ∀ (f pos : Nat) (st : Option Nat) (acc : List (Nat × Nat)), s.length ≤ pos + f → pos ≤ s.length → (∀ a, st = some a → a < pos) →
    pcs s (Lib.closeSpans (B s) (Lib.spansFromP whR (B s) f pos st acc)) = pcs s acc ++ fl (opn s st pos) (s.drop pos) := by
  intro f
  induction f with
  | zero =>
    intro pos st acc hf hp hst
    obtain rfl : pos = s.length := by omega
    rw [List.drop_length, fl]
    cases st with
    | none =>
      rw [if_pos (show opn s none s.length = [] from rfl), List.append_nil]
      rfl
    | some a =>
      have ha := hst a rfl
      have hne : opn s (some a) s.length ≠ [] := by
        intro e
        have := congrArg List.length e
        show False
        unfold opn at this
        simp only [List.length_take, List.length_drop, List.length_nil] at this
        omega
      rw [if_neg hne]
      show pcs s (acc ++ [(a, (B s).size)]) = _
      rw [B_size]
      unfold pcs
      rw [List.map_append]
      rfl
  | succ f ih =>
    intro pos st acc hf hp hst
    by_cases hlt : pos < s.length
    · have hd := decode_drop s pos hlt
      obtain ⟨x, t, hx⟩ : ∃ x t, s.drop pos = x :: t := ⟨s[pos], s.drop (pos + 1), List.drop_eq_getElem_cons hlt⟩
      have hl := dec_len (x :: t) (by simp)
      have hlen : (x :: t).length = s.length - pos := by rw [← hx, List.length_drop]
      rw [hx] at hd
      rw [spans_step _ _ _ _ _ _ (by rw [B_size]; exact hlt), hd, hx]
      by_cases hlo : x.toNat < 128
      · have e := dec_lo x t hlo
        rw [e]
        simp only
        rw [whR_lo]
        have hdr : s.drop (pos + 1) = t := by rw [← List.drop_drop, hx]; rfl
        by_cases hw : whB x = true
        · rw [if_pos hw, fl, if_pos hw]
          cases st with
          | none =>
            show pcs s (Lib.closeSpans (B s) (Lib.spansFromP whR (B s) f (pos + 1) none acc)) = _
            rw [ih (pos + 1) none acc (by omega) (by omega) (fun a h => by cases h), hdr]
            rfl
          | some a =>
            have ha := hst a rfl
            have hne : opn s (some a) pos ≠ [] := by
              intro e
              have := congrArg List.length e
              show False
              unfold opn at this
              simp only [List.length_take, List.length_drop, List.length_nil] at this
              omega
            show pcs s (Lib.closeSpans (B s) (Lib.spansFromP whR (B s) f (pos + 1) none (acc ++ [(a, pos)]))) = _
            rw [ih (pos + 1) none _ (by omega) (by omega) (fun a h => by cases h), hdr, if_neg hne]
            unfold pcs
            rw [List.map_append, List.append_assoc]
            rfl
        · rw [if_neg hw]
          have hw2 : whB x = false := by simpa using hw
          have hgo := opn_go s st pos 1 (fun a h => Nat.le_of_lt (hst a h)) (by omega)
          have key : pcs s (Lib.closeSpans (B s) (Lib.spansFromP whR (B s) f (pos + 1) (some (st.getD pos)) acc)) = pcs s acc ++ fl (opn s st pos) (x :: t) := by
            rw [ih (pos + 1) (some (st.getD pos)) acc (by omega) (by omega) (fun a h => by cases h; cases st with | none => exact Nat.lt_succ_self _ | some b => exact Nat.lt_succ_of_lt (hst b rfl)), hgo, hx, hdr, fl, if_neg (by rw [hw2]; decide)]
            rfl
          cases st with
          | none => exact key
          | some a => exact key
      · obtain ⟨h1, h2⟩ := dec_hi x t (by omega)
        rw [whR_hi h1, if_neg (by decide)]
        obtain ⟨n, hn⟩ : ∃ n, (dec (x :: t)).2 = n := ⟨_, rfl⟩
        rw [hn] at h2 hl ⊢
        have hgo := opn_go s st pos n (fun a h => Nat.le_of_lt (hst a h)) (by omega)
        have hdr : s.drop (pos + n) = (x :: t).drop n := by rw [← List.drop_drop, hx]
        have key : pcs s (Lib.closeSpans (B s) (Lib.spansFromP whR (B s) f (pos + n) (some (st.getD pos)) acc)) = pcs s acc ++ fl (opn s st pos) (x :: t) := by
          rw [ih (pos + n) (some (st.getD pos)) acc (by omega) (by omega) (fun a h => by cases h; cases st with | none => show pos < pos + n; omega | some b => have := hst b rfl; show b < pos + n; omega), hgo, hx, hdr, ← fl_nw _ _ _ h2, List.take_append_drop]
        cases st with
        | none => exact key
        | some a => exact key
    · obtain rfl : pos = s.length := by omega
      rw [Lib.spansFromP_end _ _ _ _ _ _ (by rw [B_size]; omega)]
      have := ih s.length st acc (by omega) (Nat.le_refl _) hst
      rw [Lib.spansFromP_end _ _ _ _ _ _ (by rw [B_size]; omega)] at this
      exact this
/-- strings.FieldsFunc at white space. -/
theorem fields_eq (s : List UInt8) : Lib.goFieldsP whR (B s) = (fl [] s).map B := by
  have h := spans_l s s.length 0 none [] (by omega) (Nat.zero_le _) (fun a h => by cases h)
  rw [List.drop_zero] at h
  unfold Lib.goFieldsP Lib.spansOfP
  rw [B_size]
  have h2 := congrArg (List.map B) h
  rw [show pcs s [] ++ fl (opn s none 0) s = fl [] s from rfl] at h2
  rw [← h2]
  unfold pcs
  rw [List.map_map]
  refine List.map_congr_left (fun x _ => ?_)
  exact B_extract s x.1 x.2
end Go.Proofs.YtekifcbokdidlaaGreatDoor.Pl

namespace Go.Proofs.YtekifcbokdidlaaGreatDoor.PA
open Go.RowKit Go.Proofs.YtekifcbokdidlaaGreatDoorW.PrintWords Go.Proofs.YtekifcbokdidlaaGreatDoorW.PrintLast Go.Proofs.YtekifcbokdidlaaGreatDoorW.PrintMore Go.Proofs.YtekifcbokdidlaaGreatDoor.Pl
set_option linter.unusedVariables false

theorem white_pred (w : World) : PredAtRunes Tryz.prog 42 #[] whR w := fun W x hx hb => by
  unfold FnGives
  show Calls Tryz.prog 42 #[.int .i32 (x : Int)] W _
  by_cases h1 : x = 32
  · have HW := Lib.hid (show whR x = true by unfold whR; rw [decide_eq_true h1]; rfl)
    have q : ((x : Int) == 32) = true := beq_iff_eq.2 (by omega)
    clear h1 hx hb
    go_enter Tryz.func42, Tryz.ntmps42
    go_wp2
    go_ret
    exact ⟨congrArg (fun z => Ending.returned (.bool z)) HW.out.symm, 0, rfl⟩
  · have q : ((x : Int) == 32) = false := beq_eq_false_iff_ne.2 (by omega)
    by_cases h2 : 9 ≤ x
    · have q2 : decide ((9 : Int) ≤ (x : Int)) = true := decide_eq_true (by omega)
      have q2n : 9 ≤ x := h2
      by_cases h3 : x ≤ 13
      · have HW := Lib.hid (show whR x = true by unfold whR; rw [decide_eq_true h2, decide_eq_true h3]; simp)
        have q3 : decide ((x : Int) ≤ 13) = true := decide_eq_true (by omega)
        clear h1 hx hb h2
        go_enter Tryz.func42, Tryz.ntmps42
        go_wp2
        go_ret
        exact ⟨congrArg (fun z => Ending.returned (.bool z)) HW.out.symm, 0, rfl⟩
      · have HW := Lib.hid (show whR x = false by unfold whR; rw [decide_eq_false h1, decide_eq_false h3]; simp)
        have q3 : decide ((x : Int) ≤ 13) = false := decide_eq_false (by omega)
        clear h1 hx hb h2
        go_enter Tryz.func42, Tryz.ntmps42
        go_wp2
        go_ret
        exact ⟨congrArg (fun z => Ending.returned (.bool z)) HW.out.symm, 0, rfl⟩
    · have HW := Lib.hid (show whR x = false by unfold whR; rw [decide_eq_false h1, decide_eq_false h2]; simp)
      have q2 : decide ((9 : Int) ≤ (x : Int)) = false := decide_eq_false (by omega)
      clear h1 hx hb
      go_enter Tryz.func42, Tryz.ntmps42
      go_wp2
      go_ret
      exact ⟨congrArg (fun z => Ending.returned (.bool z)) HW.out.symm, 0, rfl⟩
/-- A text as a label. -/
def lbl (s : List UInt8) : List UInt8 := foldL (chars (clean (jn (fl [] s))))
theorem jn_join : ∀ fs : List (List UInt8), Lib.join fs [32] = jn fs
  | [] => rfl
  | [x] => Lib.join_one x [32]
  | x :: y :: r => by
    have ih := jn_join (y :: r)
    unfold Lib.join at ih ⊢
    rw [jn, ← ih]
    simp [List.intercalate, List.intersperse]
theorem fl_len : ∀ (t cur : List UInt8), (fl cur t).length ≤ t.length + 1 ∧ (jn (fl cur t)).length ≤ cur.length + t.length + 1
  | [], cur => by
    rw [fl]
    split
    · simp [jn]
    · simp [jn]
  | x :: t, cur => by
    rw [fl]
    split
    · split
      · have := fl_len t []
        simp only [List.length_nil, List.length_cons] at this ⊢
        omega
      · have h1 := fl_len t []
        have h2 : (jn (cur :: fl [] t)).length ≤ cur.length + 1 + (jn (fl [] t)).length := by
          cases fl [] t with
          | nil => simp [jn]
          | cons y r => rw [jn]; simp; omega
        simp only [List.length_nil, List.length_cons] at h1 ⊢
        omega
    · have := fl_len t (cur ++ [x])
      simp only [List.length_append, List.length_cons, List.length_nil] at this ⊢
      omega
theorem bytes_ok (s : ByteArray) : okB (bytesOf s) = true := by
  unfold okB bytesOf
  rw [List.all_map, List.all_eq_true]
  intro x _
  have := x.toNat_lt
  simp
  omega
theorem bytes_u8 (s : ByteArray) : u8s (bytesOf s) = s.data.toList := by
  unfold u8s bytesOf
  rw [List.map_map]
  conv => rhs; rw [← List.map_id s.data.toList]
  refine List.map_congr_left (fun x _ => ?_)
  simp
theorem fields_row {w : World} {base A : Nat} {F : List ByteArray} (hown : w.ownsRow base 9 1 (.slice (some ⟨A, 0, none⟩) F.length F.length) F.length (F.map Value.string)) :
    Kd.C Kd.string w (some ⟨A, 0, none⟩) F.length F := by
  have h := Kd.R_of_own (enc := Value.string) (h1 := fun _ => rfl) (ok := fun _ => True) hown (fun _ _ => trivial)
  exact (Kd.R_reads' h).2.2
set_option maxHeartbeats 4000000 in
set_option maxRecDepth 100000 in
theorem Label_walk (s : ByteArray) (w : World) (hLd : Laid w) (hs : s.size ≤ 65536) :
    Calls Tryz.prog 19 #[.string s] w fun e w' => e = .returned (.string (B (lbl s.data.toList))) ∧ Below w.heap.size w w' := by
  have hl : s.data.toList.length = s.size := by rw [Array.length_toList]; rfl
  have hcl := clean_le s.data.toList
  have hbw := bytes_below (Below.refl w.heap.size w) (Nat.le_refl _) 5 s
  have hrd := bytes_reads w 5 s (by omega)
  have hL := hLd.go hbw
  have hcap := grownCap_ge w s.size 0 5
  have hf : text_Clean.f (bytesOf s) = some (B (clean s.data.toList)) := by
    unfold text_Clean.f
    rw [if_pos ⟨bytes_ok s, by rw [bytesOf_length]; omega⟩, bytes_u8]
    rfl
  have hcall := fun (c : Nat) (hc : s.size ≤ c) => text_Clean.calls (some ⟨w.heap.size, 0, none⟩) c (bytesOf s) (B (clean s.data.toList)) _ hL (by rw [bytesOf_length]; exact Kd.C_of_reads (d := (0 : Int)) (h1 := fun _ => rfl) hrd) (by rw [bytesOf_length]; exact hc) hf
  rw [bytesOf_length] at hcall
  have HC := Lib.hid (hcall _ hcap)
  have HBW := Lib.hid hbw
  have hws : w.heap.size ≤ (Lib.bytesWorld w 5 s).heap.size := hbw.size
  have hfl := fl_len (clean s.data.toList) []
  obtain ⟨x, hx⟩ : ∃ x, clean s.data.toList = x := ⟨_, rfl⟩
  have hlbl : lbl s.data.toList = foldL (chars (clean (jn (fl [] x)))) := by
    unfold lbl
    rw [← hx, ← lab_comm, clean_clean]
  rw [hx] at HC hfl hcl
  have hfe := fields_eq x
  have HFF := Lib.hid (fun W => Tryz.strings_FieldsFunc_runes 42 #[] (enters_of Tryz.func42 (by kernel_rfl) rfl) whR (B x) W (by rw [B_size]; omega) (white_pred W))
  rw [hfe] at HFF
  have hjf : strings_Join.f ((fl [] x).map B) ⟨#[32]⟩ = some (B (jn (fl [] x))) := by
    have e : ((fl [] x).map B).map (·.data.toList) = fl [] x := by
      rw [List.map_map]
      exact (List.map_congr_left (g := id) (fun y _ => B_data y)).trans (List.map_id _)
    unfold strings_Join.f
    rw [e, show (⟨#[32]⟩ : ByteArray).data.toList = [32] from rfl, jn_join, if_pos ⟨by rw [List.length_map]; simp at hfl; omega, by simp at hfl; omega⟩]
    rfl
  have hJ := fun (A : Nat) (W : World) (h : Kd.C Kd.string W (some ⟨A, 0, none⟩) ((fl [] x).map B).length ((fl [] x).map B)) => strings_Join.calls (some ⟨A, 0, none⟩) ((fl [] x).map B).length ((fl [] x).map B) ⟨#[32]⟩ _ W h (Nat.le_refl _) hjf
  have HJ := Lib.hid hJ
  have HFo := Lib.hid (fun W hW => Fold_walk (B (jn (fl [] x))) W hW (by rw [B_size]; simp at hfl; omega))
  rw [B_data] at HFo
  have HL := Lib.hid hlbl
  have HLd := Lib.hid hLd
  obtain ⟨y, hy⟩ : ∃ y, B x = y := ⟨_, rfl⟩
  obtain ⟨z, hz⟩ : ∃ z, B (jn (fl [] x)) = z := ⟨_, rfl⟩
  rw [hy] at HC HFF
  rw [hz] at HJ HFo
  obtain ⟨F, hF⟩ : ∃ F, (fl [] x).map B = F := ⟨_, rfl⟩
  rw [hF] at HFF HJ
  clear hcall hrd hL hf hbw hfl hcl hfe hjf hJ hlbl hx hy hz hF hl hs hLd
  have kb := fun W => print_bytes (P := Tryz.prog) 9 60 5 Tryz.underlying9 Tryz.underlying60 Tryz.underlying5 s W
  go_enter Tryz.func19, Tryz.ntmps19
  go_wp2_with fail
  refine HC.out.mono ?_
  rintro e w1 ⟨rfl, hb1⟩
  have HB1 := Lib.hid (HBW.out.trans (hb1.mono hws))
  clear hb1 HC kb HBW hws hcap
  go_wp2_with fail
  refine (HFF.out _).mono ?_
  rintro e w2 ⟨A, rfl, hA, hown, hb2⟩
  have HC2 := Lib.hid (fields_row hown)
  have HB2 := Lib.hid (HB1.out.trans (hb2.mono HB1.out.size))
  clear hown hb2 hA HFF HB1
  go_wp2_with fail
  refine (HJ.out A _ HC2.out).mono ?_
  rintro e w3 ⟨rfl, hb3⟩
  have HB3 := Lib.hid (HB2.out.trans (hb3.mono HB2.out.size))
  clear hb3 HJ HC2 HB2
  go_wp2_with fail
  refine (HFo.out _ (HLd.out.go HB3.out)).mono ?_
  rintro e w4 ⟨rfl, hb4⟩
  have HB4 := Lib.hid (HB3.out.trans (hb4.mono HB3.out.size))
  clear hb4
  go_wp2
  go_ret
  rw [HL.out]
  exact ⟨rfl, HB4.out⟩
def class_Label.f (a0 : ByteArray) : Option ByteArray := if a0.size ≤ 65536 then some (B (lbl a0.data.toList)) else none
theorem class_Label.calls (a0 : ByteArray) (r : ByteArray) (w : World) (hLd : Laid w) (h : class_Label.f a0 = some r) :
    Calls Tryz.prog 19 #[.string a0] w fun e w' => e = .returned (.string r) ∧ Below w.heap.size w w' := by
  unfold class_Label.f at h
  split at h
  · rename_i hc
    obtain rfl := Option.some.inj h
    exact Label_walk a0 w hLd hc
  · cases h
end Go.Proofs.YtekifcbokdidlaaGreatDoor.PA

namespace Go.Proofs.YtekifcbokdidlaaGreatDoor.PA
open Go.RowKit Go.Proofs.YtekifcbokdidlaaGreatDoor.Pl
set_option linter.unusedVariables false

/-- A digit's value. -/
def dv (x : UInt8) : Nat := if 48 ≤ x.toNat ∧ x.toNat ≤ 57 then x.toNat - 48 else (x.toNat ||| 32) - 87
def dOk (b : Nat) (x : UInt8) : Prop := (48 ≤ x.toNat ∧ x.toNat ≤ 57) ∨ (b = 16 ∧ 97 ≤ (x.toNat ||| 32) ∧ (x.toNat ||| 32) ≤ 102)
instance (b : Nat) (x : UInt8) : Decidable (dOk b x) := by unfold dOk; exact inferInstance
def num (b : Nat) (l : List UInt8) : Nat := l.foldl (fun n x => n * b + dv x) 0
theorem num_snoc (b : Nat) (l : List UInt8) (x : UInt8) : num b (l ++ [x]) = num b l * b + dv x := by simp [num]
theorem hexL (x : UInt8) (h : 97 ≤ (x.toNat ||| 32)) (h2 : (x.toNat ||| 32) ≤ 102) : 57 < x.toNat := by
  have h0 : ∀ y : Fin 256, 97 ≤ (y.val ||| 32) → 57 < y.val := by decide +kernel
  exact h0 ⟨x.toNat, x.toNat_lt⟩ h
theorem hexU (x : UInt8) (h : 97 ≤ (x.toNat ||| 32)) (h2 : (x.toNat ||| 32) ≤ 102) : x.toNat ≠ 95 := by
  have h0 : ∀ y : Fin 256, 97 ≤ (y.val ||| 32) → (y.val ||| 32) ≤ 102 → y.val ≠ 95 := by decide +kernel
  exact h0 ⟨x.toNat, x.toNat_lt⟩ h h2
theorem dv_le (b : Nat) (x : UInt8) (h : dOk b x) (hb : b = 10 ∨ b = 16) : dv x < b := by
  unfold dv
  rcases h with h | ⟨h1, h2, h3⟩
  · rw [if_pos h]
    omega
  · have := hexL x h2 h3
    rw [if_neg (by omega)]
    omega
theorem num_lt (b : Nat) (hb : b = 10 ∨ b = 16) : ∀ (n : Nat) (l : List UInt8), l.length = n → (∀ x ∈ l, dOk b x) → num b l + 1 ≤ 16 ^ n := by
  intro n
  induction n with
  | zero =>
    intro l hl _
    obtain rfl := List.length_eq_zero_iff.1 hl
    exact Nat.le_refl _
  | succ n ih =>
    intro l hl h
    rcases List.eq_nil_or_concat l with rfl | ⟨q, y, rfl⟩
    · cases hl
    · rw [List.concat_eq_append] at *
      have h1 := ih q (by simpa using hl) (fun x hx => h x (List.mem_append_left _ hx))
      have h2 := dv_le b y (h y (by simp)) hb
      rw [num_snoc, Nat.pow_succ]
      have h3 : num b q * b ≤ num b q * 16 := Nat.mul_le_mul_left _ (by omega)
      omega
theorem or32 (x : UInt8) : bits .or .u8 (x.toNat : Int) 32 = ((x.toNat ||| 32 : Nat) : Int) := by
  have h : ∀ y : Fin 256, bits .or .u8 (y.val : Int) 32 = ((y.val ||| 32 : Nat) : Int) := by decide +kernel
  exact h ⟨x.toNat, x.toNat_lt⟩
theorem lower_any (x : UInt8) (w : World) : Calls Tryz.prog 151 #[.int .u8 (x.toNat : Int)] w fun e w' => e = .returned (.int .u8 ((x.toNat ||| 32 : Nat) : Int)) ∧ w = w' := by
  have h := or32 x
  go_enter Tryz.func151, Tryz.ntmps151
  go_wp2
  go_ret
  exact ⟨by first | rfl | (rw [← h]; rfl) | (simp [h]; done), rfl⟩
set_option maxHeartbeats 32000000 in
set_option maxRecDepth 100000 in
theorem puint10 (s : List UInt8) (h0 : s ≠ []) (h7 : s.length ≤ 7) (hd : ∀ x ∈ s, dOk 10 x) (w : World) :
    Calls Tryz.prog 146 #[.string (B s), .int .i64 10, .int .i64 32] w fun e w' => e = .returned (.tuple #[.int .u64 (num 10 s : Nat), .nilIface]) ∧ Below w.heap.size w w' := by
  have hsz : (B s).size = s.length := B_size s
  have hemp : (B s).toList.isEmpty = false := by
    rw [B_toList]
    cases s with
    | nil => exact absurd rfl h0
    | cons _ _ => rfl
  have hcv := Lib.run_convert_string_bytes (P := Tryz.prog) w 9 60 5 (B s) (u := .string) Tryz.underlying9 Tryz.underlying60 Tryz.underlying5
  have hBc : ∀ j, j < s.length → (Lib.bytesWorld w 5 (B s)).cell? ⟨w.heap.size, j, none⟩ = some (.int .u8 ((B s).data.toList.getD j 0).toNat) := fun j hj => Lib.bytesWorld_cell w 5 (B s) j (by omega)
  have hBel : Below w.heap.size w (Lib.bytesWorld w 5 (B s)) := (Below.refl _ w).grown (row := none) ⟨rfl, rfl, rfl, by rw [Lib.bytesWorld_size]; omega, fun k hk _ => Lib.bytesWorld_at_old w _ _ k hk⟩ (Nat.le_refl _) (fun k hk => by cases hk)
  obtain ⟨W1, hW1⟩ : ∃ W1, W1 = Lib.bytesWorld w 5 (B s) := ⟨_, rfl⟩
  rw [← hW1] at hcv hBc hBel
  clear hW1
  rw [hsz] at hcv
  rw [B_data] at hBc
  have hmv : IntKind.u64.wrap (IntKind.u64.wrap 4294967296 - 1) = 4294967295 := by
    rw [IntKind.wrap_u64, IntKind.wrap_u64]
    decide
  have HB := Lib.hid hBel
  have HD := Lib.hid hd
  clear hBel hsz hd
  obtain ⟨nb, hnb⟩ : ∃ nb : List UInt8 → Nat, nb = num 10 := ⟨_, rfl⟩
  have HNS := Lib.hid (show ∀ l x, nb (l ++ [x]) = nb l * 10 + dv x from fun l x => by rw [hnb]; exact num_snoc 10 l x)
  have HN0 := Lib.hid (show nb [] = 0 by rw [hnb]; rfl)
  rw [← hnb]
  clear hnb
  go_enter Tryz.func146, Tryz.ntmps146
  go_wp2
  go_loop [12, 13, 101] (fun vu vn vi => ∃ (k : Nat) (a : Int), vu = .bool false ∧ vn = .int .u64 a ∧ vi = .int .i64 k ∧ k ≤ s.length ∧ Hid (a = ((nb (s.take k) : Nat) : Int) ∧ nb (s.take k) + 1 ≤ 16 ^ k))
    (fun _ _ vi => s.length - (intOf vi).toNat)
  case atStart => exact ⟨0, 0, rfl, rfl, rfl, by omega, by rw [List.take_zero, HN0.out]; rfl, by rw [List.take_zero, HN0.out]; exact Nat.le_refl _⟩
  case round =>
    obtain ⟨k, a, rfl, rfl, rfl, hk, hh⟩ := hrel
    obtain ⟨ha, hle⟩ := hh.out
    clear hh
    have a0 : 0 ≤ a := by omega
    by_cases hkn : k < s.length
    · have hc := hBc k hkn
      have hget : s.getD k 0 = s[k] := by rw [List.getD_eq_getElem?_getD, List.getElem?_eq_getElem hkn]; rfl
      have hdk := HD.out s[k] (List.getElem_mem hkn)
      have hsn := HNS.out (s.take k) s[k]
      rw [List.take_append_getElem hkn] at hsn
      rw [hget] at hc
      have h16 : (16 : Nat) ^ k ≤ 16 ^ 6 := Nat.pow_le_pow_right (by decide) (by omega)
      have a1 : a ≤ 16777215 := by omega
      have hdv := dv_le 10 s[k] hdk (by decide)
      have hs16 : (16 : Nat) ^ (k + 1) = 16 ^ k * 16 := Nat.pow_succ _ _
      have hdd : dv s[k] = if 48 ≤ s[k].toNat ∧ s[k].toNat ≤ 57 then s[k].toNat - 48 else (s[k].toNat ||| 32) - 87 := rfl
      clear hBc hget
      generalize s[k] = c at *
      have hc256 : c.toNat < 256 := c.toNat_lt
      by_cases hdig : 48 ≤ c.toNat ∧ c.toNat ≤ 57
      · obtain ⟨hd0, hd1⟩ := hdig
        rw [if_pos ⟨hd0, hd1⟩] at hdd
        have HN : Hid (a * 10 + ((c.toNat : Int) - 48) = ((nb (s.take (k + 1)) : Nat) : Int) ∧ nb (s.take (k + 1)) + 1 ≤ 16 ^ (k + 1)) := Lib.hid ⟨by omega, by omega⟩
        have q95 : ((c.toNat : Int) == 95) = false := beq_eq_false_iff_ne.2 (by omega)
        clear ha hle h16 hs16 hdk hdv hsn hdd
        go_wp2
        refine ⟨⟨k + 1, a * 10 + ((c.toNat : Int) - 48), rfl, (by first | rfl | (congr 1; omega)), (by first | rfl | (congr 1; omega)), by omega, HN⟩, by simp [intOf]; omega⟩
      · rcases hdk with hx | ⟨hx, hlo, hhi⟩
        · exact absurd hx hdig
        · exact absurd hx (by decide)
    · have hge : s.length ≤ k := by omega
      have HA := Lib.hid (show a = ((nb s : Nat) : Int) by rw [ha, List.take_of_length_le hge])
      have h16 : (16 : Nat) ^ k ≤ 16 ^ 7 := Nat.pow_le_pow_right (by decide) (by omega)
      have a1 : a ≤ 268435455 := by omega
      have hkb : decide (k < s.length) = false := decide_eq_false hkn
      clear ha hle h16 hBc
      go_wp2
      go_ret2
      exact ⟨congrArg (fun z => Ending.returned (.tuple #[.int .u64 z, .nilIface])) HA.out, HB.out⟩
set_option maxHeartbeats 32000000 in
set_option maxRecDepth 100000 in
theorem pint10 (s : List UInt8) (h0 : s ≠ []) (h7 : s.length ≤ 7) (hd : ∀ x ∈ s, dOk 10 x) (w : World) :
    Calls Tryz.prog 143 #[.string (B s), .int .i64 10, .int .i64 32] w fun e w' => e = .returned (.tuple #[.int .i64 (num 10 s : Nat), .nilIface]) ∧ Below w.heap.size w w' := by
  have hl := num_lt 10 (by decide) s.length s rfl hd
  have h16 : (16 : Nat) ^ s.length ≤ 16 ^ 7 := Nat.pow_le_pow_right (by decide) (by omega)
  have hpu := puint10 s h0 h7 hd
  obtain ⟨nn, hnn⟩ : ∃ nn : Int, nn = ((num 10 s : Nat) : Int) := ⟨_, rfl⟩
  have n0 : 0 ≤ nn := by omega
  have n1 : nn ≤ 268435455 := by omega
  rw [← hnn] at hpu ⊢
  clear hl h16 hnn
  have hemp : (B s).toList.isEmpty = false := by
    rw [B_toList]
    cases s with
    | nil => exact absurd rfl h0
    | cons _ _ => rfl
  have hpos : 0 < (B s).size := by rw [B_size]; exact List.length_pos_iff.2 h0
  have hb0 : (B s)[0]'hpos = s[0]'(List.length_pos_iff.2 h0) := List.getElem_toArray (List.length_pos_iff.2 h0)
  have hx : 48 ≤ ((B s)[0]'hpos).toNat := by
    rw [hb0]
    rcases hd _ (List.getElem_mem (List.length_pos_iff.2 h0)) with h | ⟨_, h1, h2⟩
    · exact h.1
    · have := hexL _ h1 h2
      omega
  clear hb0
  have q1 : ((((B s)[0]'hpos).toNat : Int) == 43) = false := beq_eq_false_iff_ne.2 (by omega)
  have q2 : ((((B s)[0]'hpos).toNat : Int) == 45) = false := beq_eq_false_iff_ne.2 (by omega)
  have HPU := Lib.hid hpu
  clear hpu hd
  go_enter Tryz.func143, Tryz.ntmps143
  go_wp2_with fail
  refine (HPU.out _).mono ?_
  rintro e w1 ⟨rfl, hb⟩
  go_wp2
  go_ret2
  exact ⟨rfl, hb⟩
set_option maxHeartbeats 32000000 in
set_option maxRecDepth 100000 in
theorem parseInt10 (s : List UInt8) (h0 : s ≠ []) (h7 : s.length ≤ 7) (hd : ∀ x ∈ s, dOk 10 x) (w : World) :
    Calls Tryz.prog 137 #[.string (B s), .int .i64 10, .int .i64 32] w fun e w' => e = .returned (.tuple #[.int .i64 (num 10 s : Nat), .nilIface]) ∧ Below w.heap.size w w' := by
  have HPI := Lib.hid (pint10 s h0 h7 hd w)
  go_enter Tryz.func137, Tryz.ntmps137
  go_wp2_with fail
  refine HPI.out.mono ?_
  rintro e w1 ⟨rfl, hb⟩
  go_wp2
  go_ret2
  exact ⟨rfl, hb⟩
set_option maxHeartbeats 32000000 in
set_option maxRecDepth 100000 in
theorem puint16 (s : List UInt8) (h0 : s ≠ []) (h7 : s.length ≤ 7) (hd : ∀ x ∈ s, dOk 16 x) (w : World) :
    Calls Tryz.prog 146 #[.string (B s), .int .i64 16, .int .i64 32] w fun e w' => e = .returned (.tuple #[.int .u64 (num 16 s : Nat), .nilIface]) ∧ Below w.heap.size w w' := by
  have hsz : (B s).size = s.length := B_size s
  have hemp : (B s).toList.isEmpty = false := by
    rw [B_toList]
    cases s with
    | nil => exact absurd rfl h0
    | cons _ _ => rfl
  have hcv := Lib.run_convert_string_bytes (P := Tryz.prog) w 9 60 5 (B s) (u := .string) Tryz.underlying9 Tryz.underlying60 Tryz.underlying5
  have hBc : ∀ j, j < s.length → (Lib.bytesWorld w 5 (B s)).cell? ⟨w.heap.size, j, none⟩ = some (.int .u8 ((B s).data.toList.getD j 0).toNat) := fun j hj => Lib.bytesWorld_cell w 5 (B s) j (by omega)
  have hBel : Below w.heap.size w (Lib.bytesWorld w 5 (B s)) := (Below.refl _ w).grown (row := none) ⟨rfl, rfl, rfl, by rw [Lib.bytesWorld_size]; omega, fun k hk _ => Lib.bytesWorld_at_old w _ _ k hk⟩ (Nat.le_refl _) (fun k hk => by cases hk)
  obtain ⟨W1, hW1⟩ : ∃ W1, W1 = Lib.bytesWorld w 5 (B s) := ⟨_, rfl⟩
  rw [← hW1] at hcv hBc hBel
  clear hW1
  rw [hsz] at hcv
  rw [B_data] at hBc
  have hmv : IntKind.u64.wrap (IntKind.u64.wrap 4294967296 - 1) = 4294967295 := by
    rw [IntKind.wrap_u64, IntKind.wrap_u64]
    decide
  have HB := Lib.hid hBel
  have HD := Lib.hid hd
  clear hBel hsz hd
  obtain ⟨nb, hnb⟩ : ∃ nb : List UInt8 → Nat, nb = num 16 := ⟨_, rfl⟩
  have HNS := Lib.hid (show ∀ l x, nb (l ++ [x]) = nb l * 16 + dv x from fun l x => by rw [hnb]; exact num_snoc 16 l x)
  have HN0 := Lib.hid (show nb [] = 0 by rw [hnb]; rfl)
  rw [← hnb]
  clear hnb
  go_enter Tryz.func146, Tryz.ntmps146
  go_wp2
  go_loop [12, 13, 101] (fun vu vn vi => ∃ (k : Nat) (a : Int), vu = .bool false ∧ vn = .int .u64 a ∧ vi = .int .i64 k ∧ k ≤ s.length ∧ Hid (a = ((nb (s.take k) : Nat) : Int) ∧ nb (s.take k) + 1 ≤ 16 ^ k))
    (fun _ _ vi => s.length - (intOf vi).toNat)
  case atStart => exact ⟨0, 0, rfl, rfl, rfl, by omega, by rw [List.take_zero, HN0.out]; rfl, by rw [List.take_zero, HN0.out]; exact Nat.le_refl _⟩
  case round =>
    obtain ⟨k, a, rfl, rfl, rfl, hk, hh⟩ := hrel
    obtain ⟨ha, hle⟩ := hh.out
    clear hh
    have a0 : 0 ≤ a := by omega
    by_cases hkn : k < s.length
    · have hc := hBc k hkn
      have hget : s.getD k 0 = s[k] := by rw [List.getD_eq_getElem?_getD, List.getElem?_eq_getElem hkn]; rfl
      have hdk := HD.out s[k] (List.getElem_mem hkn)
      have hsn := HNS.out (s.take k) s[k]
      rw [List.take_append_getElem hkn] at hsn
      rw [hget] at hc
      have h16 : (16 : Nat) ^ k ≤ 16 ^ 6 := Nat.pow_le_pow_right (by decide) (by omega)
      have a1 : a ≤ 16777215 := by omega
      have hdv := dv_le 16 s[k] hdk (by decide)
      have hs16 : (16 : Nat) ^ (k + 1) = 16 ^ k * 16 := Nat.pow_succ _ _
      have hdd : dv s[k] = if 48 ≤ s[k].toNat ∧ s[k].toNat ≤ 57 then s[k].toNat - 48 else (s[k].toNat ||| 32) - 87 := rfl
      clear hBc hget
      generalize s[k] = c at *
      have hc256 : c.toNat < 256 := c.toNat_lt
      by_cases hdig : 48 ≤ c.toNat ∧ c.toNat ≤ 57
      · obtain ⟨hd0, hd1⟩ := hdig
        rw [if_pos ⟨hd0, hd1⟩] at hdd
        have HN : Hid (a * 16 + ((c.toNat : Int) - 48) = ((nb (s.take (k + 1)) : Nat) : Int) ∧ nb (s.take (k + 1)) + 1 ≤ 16 ^ (k + 1)) := Lib.hid ⟨by omega, by omega⟩
        have q95 : ((c.toNat : Int) == 95) = false := beq_eq_false_iff_ne.2 (by omega)
        clear ha hle h16 hs16 hdk hdv hsn hdd
        go_wp2
        refine ⟨⟨k + 1, a * 16 + ((c.toNat : Int) - 48), rfl, (by first | rfl | (congr 1; omega)), (by first | rfl | (congr 1; omega)), by omega, HN⟩, by simp [intOf]; omega⟩
      · rcases hdk with hx | ⟨hx, hlo, hhi⟩
        · exact absurd hx hdig
        · have hgt := hexL c hlo hhi
          rw [if_neg hdig] at hdd
          have hu := hexU c hlo hhi
          have q95 : ((c.toNat : Int) == 95) = false := beq_eq_false_iff_ne.2 (by omega)
          have HL := lower_any c
          generalize (c.toNat ||| 32) = m at *
          have HN : Hid (a * 16 + ((m : Int) - 97 + 10) = ((nb (s.take (k + 1)) : Nat) : Int) ∧ nb (s.take (k + 1)) + 1 ≤ 16 ^ (k + 1)) := Lib.hid ⟨by omega, by omega⟩
          have HLH := Lib.hid HL
          clear ha hle h16 hs16 hdv hsn hdd hx hdig HL hu
          go_wp2_with (go_at_call 151; refine (HLH.out _).mono ?_; rintro e w' ⟨rfl, rfl⟩)
          refine ⟨⟨k + 1, a * 16 + ((m : Int) - 97 + 10), rfl, (by first | rfl | (congr 1; omega)), (by first | rfl | (congr 1; omega)), by omega, HN⟩, by simp [intOf]; omega⟩
    · have hge : s.length ≤ k := by omega
      have HA := Lib.hid (show a = ((nb s : Nat) : Int) by rw [ha, List.take_of_length_le hge])
      have h16 : (16 : Nat) ^ k ≤ 16 ^ 7 := Nat.pow_le_pow_right (by decide) (by omega)
      have a1 : a ≤ 268435455 := by omega
      have hkb : decide (k < s.length) = false := decide_eq_false hkn
      clear ha hle h16 hBc
      go_wp2
      go_ret2
      exact ⟨congrArg (fun z => Ending.returned (.tuple #[.int .u64 z, .nilIface])) HA.out, HB.out⟩
set_option maxHeartbeats 32000000 in
set_option maxRecDepth 100000 in
theorem pint16 (s : List UInt8) (h0 : s ≠ []) (h7 : s.length ≤ 7) (hd : ∀ x ∈ s, dOk 16 x) (w : World) :
    Calls Tryz.prog 143 #[.string (B s), .int .i64 16, .int .i64 32] w fun e w' => e = .returned (.tuple #[.int .i64 (num 16 s : Nat), .nilIface]) ∧ Below w.heap.size w w' := by
  have hl := num_lt 16 (by decide) s.length s rfl hd
  have h16 : (16 : Nat) ^ s.length ≤ 16 ^ 7 := Nat.pow_le_pow_right (by decide) (by omega)
  have hpu := puint16 s h0 h7 hd
  obtain ⟨nn, hnn⟩ : ∃ nn : Int, nn = ((num 16 s : Nat) : Int) := ⟨_, rfl⟩
  have n0 : 0 ≤ nn := by omega
  have n1 : nn ≤ 268435455 := by omega
  rw [← hnn] at hpu ⊢
  clear hl h16 hnn
  have hemp : (B s).toList.isEmpty = false := by
    rw [B_toList]
    cases s with
    | nil => exact absurd rfl h0
    | cons _ _ => rfl
  have hpos : 0 < (B s).size := by rw [B_size]; exact List.length_pos_iff.2 h0
  have hb0 : (B s)[0]'hpos = s[0]'(List.length_pos_iff.2 h0) := List.getElem_toArray (List.length_pos_iff.2 h0)
  have hx : 48 ≤ ((B s)[0]'hpos).toNat := by
    rw [hb0]
    rcases hd _ (List.getElem_mem (List.length_pos_iff.2 h0)) with h | ⟨_, h1, h2⟩
    · exact h.1
    · have := hexL _ h1 h2
      omega
  clear hb0
  have q1 : ((((B s)[0]'hpos).toNat : Int) == 43) = false := beq_eq_false_iff_ne.2 (by omega)
  have q2 : ((((B s)[0]'hpos).toNat : Int) == 45) = false := beq_eq_false_iff_ne.2 (by omega)
  have HPU := Lib.hid hpu
  clear hpu hd
  go_enter Tryz.func143, Tryz.ntmps143
  go_wp2_with fail
  refine (HPU.out _).mono ?_
  rintro e w1 ⟨rfl, hb⟩
  go_wp2
  go_ret2
  exact ⟨rfl, hb⟩
set_option maxHeartbeats 32000000 in
set_option maxRecDepth 100000 in
theorem parseInt16 (s : List UInt8) (h0 : s ≠ []) (h7 : s.length ≤ 7) (hd : ∀ x ∈ s, dOk 16 x) (w : World) :
    Calls Tryz.prog 137 #[.string (B s), .int .i64 16, .int .i64 32] w fun e w' => e = .returned (.tuple #[.int .i64 (num 16 s : Nat), .nilIface]) ∧ Below w.heap.size w w' := by
  have HPI := Lib.hid (pint16 s h0 h7 hd w)
  go_enter Tryz.func137, Tryz.ntmps137
  go_wp2_with fail
  refine HPI.out.mono ?_
  rintro e w1 ⟨rfl, hb⟩
  go_wp2
  go_ret2
  exact ⟨rfl, hb⟩
end Go.Proofs.YtekifcbokdidlaaGreatDoor.PA

namespace Go.Proofs.YtekifcbokdidlaaGreatDoor.Pl

/-- The names, sorted, and their characters' numbers. -/
def entL : List (List UInt8 × Nat) := [
  ([65, 69, 108, 105, 103], 198), ([65, 97, 99, 117, 116, 101], 193), ([65, 99, 105, 114, 99], 194), ([65, 103, 114, 97, 118, 101], 192), ([65, 108, 112, 104, 97], 913), ([65, 114, 105, 110, 103], 197),
  ([65, 116, 105, 108, 100, 101], 195), ([65, 117, 109, 108], 196), ([66, 101, 116, 97], 914), ([67, 99, 101, 100, 105, 108], 199), ([67, 108, 111, 99, 107, 119, 105, 115, 101, 67, 111, 110, 116, 111, 117, 114, 73, 110, 116, 101, 103, 114, 97, 108], 8754), ([68, 97, 103, 103, 101, 114], 8225),
  ([68, 99, 97, 114, 111, 110], 270), ([68, 101, 108, 116, 97], 916), ([68, 105, 102, 102, 101, 114, 101, 110, 116, 105, 97, 108, 68], 8518), ([69, 84, 72], 208), ([69, 97, 99, 117, 116, 101], 201), ([69, 99, 105, 114, 99], 202),
  ([69, 103, 114, 97, 118, 101], 200), ([69, 117, 109, 108], 203), ([71, 97, 109, 109, 97], 915), ([72, 105, 108, 98, 101, 114, 116, 83, 112, 97, 99, 101], 8459), ([73, 97, 99, 117, 116, 101], 205), ([73, 99, 105, 114, 99], 206),
  ([73, 103, 114, 97, 118, 101], 204), ([73, 117, 109, 108], 207), ([78, 116, 105, 108, 100, 101], 209), ([79, 69, 108, 105, 103], 338), ([79, 97, 99, 117, 116, 101], 211), ([79, 99, 105, 114, 99], 212),
  ([79, 103, 114, 97, 118, 101], 210), ([79, 109, 101, 103, 97], 937), ([79, 115, 108, 97, 115, 104], 216), ([79, 116, 105, 108, 100, 101], 213), ([79, 117, 109, 108], 214), ([83, 99, 97, 114, 111, 110], 352),
  ([84, 72, 79, 82, 78], 222), ([85, 97, 99, 117, 116, 101], 218), ([85, 99, 105, 114, 99], 219), ([85, 103, 114, 97, 118, 101], 217), ([85, 117, 109, 108], 220), ([89, 97, 99, 117, 116, 101], 221),
  ([89, 117, 109, 108], 376), ([97, 97, 99, 117, 116, 101], 225), ([97, 99, 105, 114, 99], 226), ([97, 99, 117, 116, 101], 180), ([97, 101, 108, 105, 103], 230), ([97, 103, 114, 97, 118, 101], 224),
  ([97, 108, 112, 104, 97], 945), ([97, 109, 112], 38), ([97, 112, 111, 115], 39), ([97, 114, 105, 110, 103], 229), ([97, 115, 121, 109, 112], 8776), ([97, 116, 105, 108, 100, 101], 227),
  ([97, 117, 109, 108], 228), ([98, 100, 113, 117, 111], 8222), ([98, 101, 116, 97], 946), ([98, 114, 118, 98, 97, 114], 166), ([98, 117, 108, 108], 8226), ([99, 97, 112], 8745),
  ([99, 99, 101, 100, 105, 108], 231), ([99, 101, 100, 105, 108], 184), ([99, 101, 110, 116], 162), ([99, 105, 114, 99], 710), ([99, 108, 117, 98, 115], 9827), ([99, 111, 112, 121], 169),
  ([99, 117, 112], 8746), ([99, 117, 114, 114, 101, 110], 164), ([100, 97, 103, 103, 101, 114], 8224), ([100, 97, 114, 114], 8595), ([100, 101, 103], 176), ([100, 101, 108, 116, 97], 948),
  ([100, 105, 97, 109, 115], 9830), ([100, 105, 118, 105, 100, 101], 247), ([101, 97, 99, 117, 116, 101], 233), ([101, 99, 105, 114, 99], 234), ([101, 103, 114, 97, 118, 101], 232), ([101, 109, 112, 116, 121], 8709),
  ([101, 109, 115, 112], 8195), ([101, 110, 115, 112], 8194), ([101, 112, 115, 105, 108, 111, 110], 949), ([101, 113, 117, 105, 118], 8801), ([101, 116, 104], 240), ([101, 117, 109, 108], 235),
  ([101, 117, 114, 111], 8364), ([101, 120, 105, 115, 116], 8707), ([102, 110, 111, 102], 402), ([102, 111, 114, 97, 108, 108], 8704), ([102, 114, 97, 99, 49, 50], 189), ([102, 114, 97, 99, 49, 52], 188),
  ([102, 114, 97, 99, 51, 52], 190), ([103, 97, 109, 109, 97], 947), ([103, 101], 8805), ([103, 116], 62), ([104, 97, 114, 114], 8596), ([104, 101, 97, 114, 116, 115], 9829),
  ([104, 101, 108, 108, 105, 112], 8230), ([105, 97, 99, 117, 116, 101], 237), ([105, 99, 105, 114, 99], 238), ([105, 101, 120, 99, 108], 161), ([105, 103, 114, 97, 118, 101], 236), ([105, 110, 102, 105, 110], 8734),
  ([105, 110, 116], 8747), ([105, 113, 117, 101, 115, 116], 191), ([105, 115, 105, 110], 8712), ([105, 117, 109, 108], 239), ([108, 97, 109, 98, 100, 97], 955), ([108, 97, 113, 117, 111], 171),
  ([108, 97, 114, 114], 8592), ([108, 100, 113, 117, 111], 8220), ([108, 101], 8804), ([108, 115, 97, 113, 117, 111], 8249), ([108, 115, 113, 117, 111], 8216), ([108, 116], 60),
  ([109, 97, 99, 114], 175), ([109, 100, 97, 115, 104], 8212), ([109, 105, 99, 114, 111], 181), ([109, 105, 100, 100, 111, 116], 183), ([109, 105, 110, 117, 115], 8722), ([109, 117], 956),
  ([110, 97, 98, 108, 97], 8711), ([110, 98, 115, 112], 160), ([110, 100, 97, 115, 104], 8211), ([110, 101], 8800), ([110, 105], 8715), ([110, 111, 116], 172),
  ([110, 116, 105, 108, 100, 101], 241), ([111, 97, 99, 117, 116, 101], 243), ([111, 99, 105, 114, 99], 244), ([111, 101, 108, 105, 103], 339), ([111, 103, 114, 97, 118, 101], 242), ([111, 109, 101, 103, 97], 969),
  ([111, 112, 108, 117, 115], 8853), ([111, 114, 100, 102], 170), ([111, 114, 100, 109], 186), ([111, 115, 108, 97, 115, 104], 248), ([111, 116, 105, 108, 100, 101], 245), ([111, 116, 105, 109, 101, 115], 8855),
  ([111, 117, 109, 108], 246), ([112, 97, 114, 97], 182), ([112, 97, 114, 116], 8706), ([112, 101, 114, 109, 105, 108], 8240), ([112, 101, 114, 112], 8869), ([112, 105], 960),
  ([112, 108, 117, 115, 109, 110], 177), ([112, 111, 117, 110, 100], 163), ([112, 114, 111, 100], 8719), ([113, 117, 111, 116], 34), ([114, 97, 100, 105, 99], 8730), ([114, 97, 113, 117, 111], 187),
  ([114, 97, 114, 114], 8594), ([114, 100, 113, 117, 111], 8221), ([114, 101, 103], 174), ([114, 115, 97, 113, 117, 111], 8250), ([114, 115, 113, 117, 111], 8217), ([115, 98, 113, 117, 111], 8218),
  ([115, 99, 97, 114, 111, 110], 353), ([115, 100, 111, 116], 8901), ([115, 101, 99, 116], 167), ([115, 104, 121], 173), ([115, 105, 103, 109, 97], 963), ([115, 112, 97, 100, 101, 115], 9824),
  ([115, 117, 98], 8834), ([115, 117, 109], 8721), ([115, 117, 112], 8835), ([115, 117, 112, 49], 185), ([115, 117, 112, 50], 178), ([115, 117, 112, 51], 179),
  ([115, 122, 108, 105, 103], 223), ([116, 104, 105, 110, 115, 112], 8201), ([116, 104, 111, 114, 110], 254), ([116, 105, 108, 100, 101], 732), ([116, 105, 109, 101, 115], 215), ([116, 114, 97, 100, 101], 8482),
  ([117, 97, 99, 117, 116, 101], 250), ([117, 97, 114, 114], 8593), ([117, 99, 105, 114, 99], 251), ([117, 103, 114, 97, 118, 101], 249), ([117, 109, 108], 168), ([117, 117, 109, 108], 252),
  ([121, 97, 99, 117, 116, 101], 253), ([121, 101, 110], 165), ([121, 117, 109, 108], 255)]
theorem entL_len : entL.length = 183 := by decide +kernel
end Go.Proofs.YtekifcbokdidlaaGreatDoor.Pl

namespace Go.Proofs.YtekifcbokdidlaaGreatDoor.PA
open Go.RowKit Go.Proofs.YtekifcbokdidlaaGreatDoor.Pl Go.Proofs.YtekifcbokdidlaaGreatDoorW.PrintWords Go.Proofs.YtekifcbokdidlaaGreatDoorW.PrintLast Go.Proofs.YtekifcbokdidlaaGreatDoorW.PrintMore
set_option linter.unusedVariables false

/-- Composite literals, one behind the other. -/
def bldAll (P : Program) : List Oper → Act → Option Act
  | [], a => some a
  | o :: r, a => match o.guard, o.op with
    | none, .build t parts => match P.built t (parts.map fun (i, x) => (i, a.eval x)).toList with
      | some c => bldAll P r (a.put o.dst (.agg c))
      | none => none
    | _, _ => none
theorem wpList_bldAll {P : Program} {ops : Array Oper} {Q : Exit → Act → World → Prop} {w : World} : ∀ (l r : List Oper) (a a' : Act), bldAll P l a = some a' → wpList P ops Q r a' w → wpList P ops Q (l ++ r) a w
  | [], r, a, a', h, hr => by
    obtain rfl := Option.some.inj h
    exact hr
  | o :: l, r, a, a', h, hr => by
    unfold bldAll at h
    split at h
    · rename_i t parts hg ho
      split at h
      · rename_i c hc
        refine wpList_build hg t parts ho (by rw [hc]; rfl) ?_
        rw [hc]
        exact wpList_bldAll l r _ a' h hr
      · cases h
    · cases h
/-- The table's cells. -/
noncomputable def entCells : Array Value := (entL.flatMap fun e => [Value.string (B e.1), Value.int .i32 (e.2 : Int)]).toArray
noncomputable def tabOps : Array Oper := match Tryz.f132.body with
  | some (.seq _ (.seq (.region _ o _) _)) => o
  | _ => #[]
def tabAct (b : Nat) : Act := { tmps := #[Value.pointer (some ⟨b, 0, none⟩)] ++ Array.replicate 184 undef, defers := [] }
theorem tab_built (b : Nat) : (bldAll Tryz.prog (tabOps.toList.take 184) (tabAct b)).map (fun a => (a.eval (.tmp 0), a.eval (.tmp 184), a.defers)) = some (.pointer (some ⟨b, 0, none⟩), .agg entCells, []) := by kernel_rfl
theorem tab_ops : ∃ o : Oper, tabOps.toList.drop 184 = [o] ∧ o.dst = none ∧ o.guard = none ∧ o.op = .store 134 (.tmp 0) (.tmp 184) := ⟨(tabOps.toList.drop 184).headD { dst := none, op := .store 134 (.tmp 0) (.tmp 184), type := 0, pos := "", after := #[], guard := none }, by kernel_rfl, by kernel_rfl, by kernel_rfl, by kernel_rfl⟩
theorem tab_body : Tryz.f132.body = some (.seq (.region 0 #[{ dst := some 0, op := .alloc 134, type := 0, pos := "table.go:10", after := #[], guard := none }] false) (.seq (.region 1 tabOps false) .ret)) := by kernel_rfl
theorem tab_len : entCells.size = 366 := by kernel_rfl
theorem tab_one : entCells.all (·.oneCell') = true := by kernel_rfl
theorem tab_zero : Tryz.zeroCells134.size = 366 := by kernel_rfl
theorem tab_info : (Tryz.prog.info? 134).map (·.size) = some 366 := by kernel_rfl
set_option maxRecDepth 100000 in
set_option maxHeartbeats 4000000 in
theorem table_walk (w : World) : Calls Tryz.prog 132 #[] w fun e w' => e = .returned (.agg entCells) ∧ Below w.heap.size w w' := by
  refine calls_of_wp Tryz.func132 tab_body ?_
  have htm : (#[] : Array Value) ++ Array.replicate ((Tryz.f132).ntmps - (#[] : Array Value).size) undef = Array.replicate 185 undef := by kernel_rfl
  rw [htm]
  have e1 : ∀ b : Nat, ({ tmps := (Array.replicate 185 undef).setIfInBounds 0 (.pointer (some ⟨b, 0, none⟩)), defers := [] } : Act) = tabAct b := fun b => by kernel_rfl
  obtain ⟨o, ho, hod, hog, hoo⟩ := tab_ops
  refine wp_seq (wp_region_list (wpList_plain rfl fun K hK => ?_))
  generalize hA : (Array.replicate 185 undef : Array Value) = A at e1 ⊢
  go_simp
  refine hK _ _ (wpList_nil ?_)
  clear hK K
  refine wp_seq (wp_region_list ?_)
  have hsplit : tabOps.toList = tabOps.toList.take 184 ++ [o] := by rw [← ho, List.take_append_drop]
  have hb := tab_built w.heap.size
  cases hq : bldAll Tryz.prog (tabOps.toList.take 184) (tabAct w.heap.size) with
  | none => rw [hq] at hb; cases hb
  | some a' =>
    rw [hq] at hb
    simp only [Option.map_some, Option.some.injEq, Prod.mk.injEq] at hb
    obtain ⟨h1, h2, h3⟩ := hb
    rw [hsplit]
    refine wpList_bldAll _ _ _ _ hq ?_
    refine wpList_store_row hog _ _ _ hoo w.heap.size entCells h1 h2 134 Tryz.zeroCells134 (World.alloc_heap_new w _) (tab_info.trans (congrArg some tab_len.symm)) (tab_zero.trans tab_len.symm) tab_one ?_
    refine wpList_nil (wp_ret ?_)
    rw [hod]
    have hg := setRow_heap (w.alloc (.cells Tryz.zeroCells134 134)) w.heap.size Tryz.zeroCells134 entCells 134 (0, 0) (World.alloc_heap_new w _)
    refine bodyPost_ret (v := .agg entCells) (results_cell_row (fn := Tryz.f132) rfl _ _ w.heap.size 134 entCells (0, 0) _ h1 hg Tryz.underlying134 rfl (tab_info.trans (congrArg some tab_len.symm))) h3 ⟨rfl, ?_⟩
    exact below_setRow ((Below.refl _ w).alloc (Nat.le_refl _) _) (Nat.le_refl _) _
end Go.Proofs.YtekifcbokdidlaaGreatDoor.PA

namespace Go.Proofs.YtekifcbokdidlaaGreatDoor.PA
open Go.RowKit Go.Proofs.YtekifcbokdidlaaGreatDoor.Pl Go.Proofs.YtekifcbokdidlaaGreatDoorW.PrintWords Go.Proofs.YtekifcbokdidlaaGreatDoorW.PrintLast Go.Proofs.YtekifcbokdidlaaGreatDoorW.PrintMore
set_option linter.unusedVariables false

/-- Texts compared. -/
def cmpT (x y : List UInt8) : Int := if Op.bytesLess x y = true then -1 else if x = y then 0 else 1
theorem isNaN_any (x : ByteArray) (w : World) : Calls Tryz.prog 142 #[.string x] w fun e w' => e = .returned (.bool false) ∧ w = w' := by
  go_enter Tryz.func142, Tryz.ntmps142
  go_wp2
  go_ret
  exact ⟨by simp, rfl⟩
theorem compare_any (x y : ByteArray) (w : World) : Calls Tryz.prog 135 #[.string x, .string y] w fun e w' => e = .returned (.int .i64 (cmpT x.toList y.toList)) ∧ w = w' := by
  have hlg : cmpT x.toList y.toList = if Op.bytesLess x.toList y.toList = true then -1 else if x.toList = y.toList then 0 else 1 := rfl
  cases h1 : Op.bytesLess x.toList y.toList with
  | true =>
    rw [h1, if_pos rfl] at hlg
    have HL := Lib.hid hlg
    clear hlg
    go_enter Tryz.func135, Tryz.ntmps135
    go_wp2_with (first | (go_at_call 142; refine (isNaN_any _ _).mono ?_; rintro e w' ⟨rfl, rfl⟩))
    go_ret
    exact ⟨congrArg (fun z => Ending.returned (.int .i64 z)) HL.out.symm, rfl⟩
  | false =>
    rw [h1, if_neg (by decide)] at hlg
    by_cases h2 : x.toList = y.toList
    · rw [if_pos h2] at hlg
      have h3 : (x.toList == y.toList) = true := beq_iff_eq.2 h2
      have HL := Lib.hid hlg
      clear hlg h2
      go_enter Tryz.func135, Tryz.ntmps135
      go_wp2_with (first | (go_at_call 142; refine (isNaN_any _ _).mono ?_; rintro e w' ⟨rfl, rfl⟩))
      go_ret
      exact ⟨congrArg (fun z => Ending.returned (.int .i64 z)) HL.out.symm, rfl⟩
    · rw [if_neg h2] at hlg
      have h3 : (x.toList == y.toList) = false := beq_eq_false_iff_ne.2 h2
      have HL := Lib.hid hlg
      clear hlg h2
      go_enter Tryz.func135, Tryz.ntmps135
      go_wp2_with (first | (go_at_call 142; refine (isNaN_any _ _).mono ?_; rintro e w' ⟨rfl, rfl⟩))
      go_ret
      exact ⟨congrArg (fun z => Ending.returned (.int .i64 z)) HL.out.symm, rfl⟩
theorem named1_any (x y : ByteArray) (n : Int) (w : World) : Calls Tryz.prog 134 #[.agg #[.string x, .int .i32 n], .string y] w fun e w' => e = .returned (.int .i64 (cmpT x.toList y.toList)) ∧ Below w.heap.size w w' := by
  have HC := Lib.hid (compare_any x y)
  go_enter Tryz.func134, Tryz.ntmps134
  go_wp2_with (first | (go_at_call 135; refine (HC.out _).mono ?_; rintro e w' ⟨rfl, rfl⟩))
  go_ret
  exact ⟨rfl, (Below.refl _ _).alloc (Nat.le_refl _) _⟩
/-- The name at a place. -/
def enm (k : Nat) : List UInt8 := (entL.getD k ([], 0)).1
def enn (k : Nat) : Int := (((entL.getD k ([], 0)).2 : Nat) : Int)
/-- The binary search: rounds, from, to. -/
def bsr (t : List UInt8) : Nat → Nat → Nat → Nat
  | 0, i, _ => i
  | f + 1, i, j => if i < j then if cmpT (enm ((i + j) / 2)) t < 0 then bsr t f ((i + j) / 2 + 1) j else bsr t f i ((i + j) / 2) else i
theorem bsr_end (t : List UInt8) (f i j : Nat) (h : ¬ i < j) : bsr t f i j = i := by
  cases f with
  | zero => rfl
  | succ f => rw [bsr, if_neg h]
/-- The table lies in a block. -/
def EntAt (b : Nat) (w : World) : Prop := ∀ k, k < 183 → w.cell? ⟨b, k * 2, none⟩ = some (.string (B (enm k))) ∧ w.cell? ⟨b, k * 2 + 1, none⟩ = some (.int .i32 (enn k))
theorem EntAt.go {b : Nat} {w w' : World} (h : EntAt b w) (hb : Below w.heap.size w w') (hlt : b < w.heap.size) : EntAt b w' := fun k hk =>
  ⟨(hb.cell (p := ⟨b, k * 2, none⟩) hlt).trans (h k hk).1, (hb.cell (p := ⟨b, k * 2 + 1, none⟩) hlt).trans (h k hk).2⟩
set_option maxHeartbeats 4000000 in
set_option maxRecDepth 100000 in
theorem bsearch_any (b : Nat) (t : List UInt8) (w : World) (hE : EntAt b w) (hb : b < w.heap.size) :
    Calls Tryz.prog 133 #[.slice (some ⟨b, 0, none⟩) 183 183, .string (B t), .func (.func 134) #[] #[]] w fun e w' =>
      e = .returned (.tuple #[.int .i64 ((bsr t 183 0 183 : Nat) : Int), .bool (decide (bsr t 183 0 183 < 183 ∧ enm (bsr t 183 0 183) = t))]) ∧ Below w.heap.size w w' := by
  obtain ⟨R, hR⟩ : ∃ R, bsr t 183 0 183 = R := ⟨_, rfl⟩
  rw [hR]
  have HR := Lib.hid hR
  have HE := Lib.hid hE
  clear hR hE
  go_enter Tryz.func133, Tryz.ntmps133
  go_wp2
  go_loopw [9, 10] (fun vi vj wr => ∃ (f i j : Nat), vi = .int .i64 i ∧ vj = .int .i64 j ∧ i ≤ j ∧ j ≤ 183 ∧ Hid (j - i ≤ f ∧ bsr t f i j = R) ∧ Hid (Below w.heap.size w wr))
    (fun vi vj _ => (intOf vj).toNat - (intOf vi).toNat)
  case atStart => exact ⟨183, 0, 183, rfl, rfl, by omega, by omega, ⟨by omega, HR.out⟩, Below.refl _ _⟩
  case round =>
    obtain ⟨f, i, j, rfl, rfl, hij, hj, HF, HB⟩ := hrel
    by_cases hlt : i < j
    · obtain ⟨hf, hr⟩ := HF.out
      clear HF
      have hEk := (HE.out.go HB.out hb) ((i + j) / 2) (by omega)
      have hsz := HB.out.size
      go_wp2_with fail
      refine (named1_any _ _ _ wr).mono ?_
      rintro e w2 ⟨rfl, hb2⟩
      rw [B_toList, B_toList]
      have HB2 := Lib.hid (HB.out.trans (hb2.mono hsz))
      obtain ⟨f, rfl⟩ : ∃ g, f = g + 1 := ⟨f - 1, by omega⟩
      rw [bsr, if_pos hlt] at hr
      obtain ⟨c, hc⟩ : ∃ c, cmpT (enm ((i + j) / 2)) t = c := ⟨_, rfl⟩
      rw [hc] at hr ⊢
      clear hEk hsz hb2 HB HE hc
      by_cases hc0 : c < 0
      · rw [if_pos hc0] at hr
        have HR2 := Lib.hid hr
        clear hr
        go_wp2
        go_roundw
        case rel => exact ⟨f, (i + j) / 2 + 1, j, by first | rfl | (congr 1; omega), rfl, by omega, hj, ⟨by omega, HR2.out⟩, HB2⟩
        case measure => simp [intOf]; omega
      · rw [if_neg hc0] at hr
        have HR2 := Lib.hid hr
        clear hr
        have hc1 : 0 ≤ c := by omega
        go_wp2
        go_roundw
        case rel => exact ⟨f, i, (i + j) / 2, rfl, by first | rfl | (congr 1; omega), by omega, by omega, ⟨by omega, HR2.out⟩, HB2⟩
        case measure => simp [intOf]; omega
    · obtain ⟨hf, hr⟩ := HF.out
      rw [bsr_end t f i j hlt] at hr
      obtain rfl : i = R := hr
      have hsz := HB.out.size
      clear HF HR
      by_cases h183 : i < 183
      · have hEk := (HE.out.go HB.out hb) i h183
        have hcz : cmpT (enm i) t = 0 ↔ enm i = t := by
          unfold cmpT
          constructor
          · intro h
            split at h
            · cases h
            · split at h
              · assumption
              · cases h
          · intro h
            rw [h]
            have hn : ∀ l : List UInt8, Op.bytesLess l l = false := by
              intro l
              induction l with
              | nil => rfl
              | cons x l ih =>
                have hx : ¬ x < x := by
                  intro h
                  exact absurd (UInt8.lt_iff_toNat_lt.1 h) (Nat.lt_irrefl _)
                simp [Op.bytesLess, ih, hx]
            rw [hn, if_neg (by decide), if_pos rfl]
        have hdec : decide (i < 183 ∧ enm i = t) = decide (cmpT (enm i) t = 0) := by rw [decide_eq_decide, hcz]; exact ⟨fun h => h.2, fun h => ⟨h183, h⟩⟩
        have HDEC := Lib.hid hdec
        clear hdec hcz
        have hd1 : decide (i < 183) = true := decide_eq_true h183
        go_wp2_with fail
        refine (named1_any _ _ _ wr).mono ?_
        rintro e w2 ⟨rfl, hb2⟩
        rw [B_toList, B_toList]
        obtain ⟨c, hc⟩ : ∃ c, cmpT (enm i) t = c := ⟨_, rfl⟩
        rw [hc] at HDEC ⊢
        have HB2 := Lib.hid (HB.out.trans (hb2.mono hsz))
        clear hEk hsz hb2 HB HE hc hd1
        cases hcd : decide (c = 0) with
        | true =>
          rw [hcd] at HDEC
          have hceq : (c == 0) = true := beq_iff_eq.2 (of_decide_eq_true hcd)
          clear hcd
          go_wp2
          go_ret2
          exact ⟨congrArg (fun z => Ending.returned (.tuple #[.int .i64 ((i : Nat) : Int), .bool z])) HDEC.out.symm, HB2.out⟩
        | false =>
          rw [hcd] at HDEC
          have hceq : (c == 0) = false := beq_eq_false_iff_ne.2 (of_decide_eq_false hcd)
          clear hcd
          go_wp2
          go_ret2
          exact ⟨congrArg (fun z => Ending.returned (.tuple #[.int .i64 ((i : Nat) : Int), .bool z])) HDEC.out.symm, HB2.out⟩
      · have hdec : decide (i < 183 ∧ enm i = t) = false := decide_eq_false (fun h => h183 h.1)
        have HDEC := Lib.hid hdec
        have hge : 183 ≤ i := by omega
        clear hdec HE
        have hd1 : decide (i < 183) = false := decide_eq_false h183
        go_wp2
        go_ret2
        exact ⟨by first | exact congrArg (fun z => Ending.returned (.tuple #[.int .i64 ((i : Nat) : Int), .bool z])) HDEC.out.symm | rfl | simp, HB.out⟩
end Go.Proofs.YtekifcbokdidlaaGreatDoor.PA

namespace Go.Proofs.YtekifcbokdidlaaGreatDoor.PA
open Go.RowKit Go.Proofs.YtekifcbokdidlaaGreatDoor.Pl Go.Proofs.YtekifcbokdidlaaGreatDoorW.PrintWords Go.Proofs.YtekifcbokdidlaaGreatDoorW.PrintLast Go.Proofs.YtekifcbokdidlaaGreatDoorW.PrintMore
set_option linter.unusedVariables false

theorem flat2 {α β : Type} (f g : α → β) : ∀ (l : List α) (k : Nat), (l.flatMap fun e => [f e, g e])[k * 2]? = (l[k]?).map f ∧ (l.flatMap fun e => [f e, g e])[k * 2 + 1]? = (l[k]?).map g
  | [], k => by simp
  | x :: l, 0 => by simp
  | x :: l, k + 1 => by
    have ih := flat2 f g l k
    rw [show (k + 1) * 2 = k * 2 + 2 by omega, show k * 2 + 2 + 1 = (k * 2 + 1) + 2 by omega]
    simp only [List.flatMap_cons, List.cons_append, List.nil_append, List.getElem?_cons_succ]
    exact ih
theorem ent_at {b : Nat} {w : World} {t : TypeId} {fr : Nat × Nat} (h : w.heap[b]? = some (.cells entCells t fr)) : EntAt b w := by
  intro k hk
  have hl : k < entL.length := by rw [entL_len]; exact hk
  have h2 := flat2 (fun e : List UInt8 × Nat => Value.string (B e.1)) (fun e => Value.int .i32 (e.2 : Int)) entL k
  rw [List.getElem?_eq_getElem hl] at h2
  have e1 : enm k = entL[k].1 := by unfold enm; rw [List.getD_eq_getElem?_getD, List.getElem?_eq_getElem hl]; rfl
  have e2 : enn k = ((entL[k].2 : Nat) : Int) := by unfold enn; rw [List.getD_eq_getElem?_getD, List.getElem?_eq_getElem hl]; rfl
  rw [e1, e2]
  constructor
  · rw [cell_of_row w b _ entCells t fr h]
    unfold entCells
    rw [List.getElem?_toArray]
    exact h2.1
  · rw [cell_of_row w b _ entCells t fr h]
    unfold entCells
    rw [List.getElem?_toArray]
    exact h2.2
theorem ret_sb {a a' : ByteArray} {b b' : Bool} (h1 : a' = a) (h2 : b' = b) : Ending.returned (.tuple #[.string a, .bool b]) = Ending.returned (.tuple #[.string a', .bool b']) := by rw [h1, h2]
/-- The character of a name. -/
def nmd (t : List UInt8) : ByteArray × Bool := if bsr t 183 0 183 < 183 ∧ enm (bsr t 183 0 183) = t then (Go.Utf8.encode (enn (bsr t 183 0 183)), true) else (⟨#[]⟩, false)
set_option maxHeartbeats 4000000 in
set_option maxRecDepth 100000 in
theorem named_walk (t : List UInt8) (w : World) : Calls Tryz.prog 118 #[.string (B t)] w fun e w' => e = .returned (.tuple #[.string (nmd t).1, .bool (nmd t).2]) ∧ Below w.heap.size w w' := by
  have HT := Lib.hid (table_walk w)
  obtain ⟨⟨q1, q2⟩, hq⟩ : ∃ q, nmd t = q := ⟨_, rfl⟩
  rw [hq]
  have HQ := Lib.hid hq
  clear hq
  go_enter Tryz.func118, Tryz.ntmps118
  go_wp2_with fail
  refine HT.out.mono ?_
  rintro e w1 ⟨rfl, hb1⟩
  have hg := setRow_heap (w1.alloc (.cells Tryz.zeroCells134 134)) w1.heap.size Tryz.zeroCells134 entCells 134 (0, 0) (World.alloc_heap_new w1 _)
  have hB := hb1.trans (below_setRow ((Below.refl _ w1).alloc (Nat.le_refl _) (.cells Tryz.zeroCells134 134)) (Nat.le_refl _) entCells |>.mono hb1.size)
  have hz : ((w1.alloc (.cells Tryz.zeroCells134 134)).setRow w1.heap.size entCells).heap.size = w1.heap.size + 1 := by rw [setRow_size, World.size_alloc]
  go_wp2_with (refine wpList_store_row rfl _ _ _ rfl w1.heap.size entCells rfl rfl 134 Tryz.zeroCells134 (World.alloc_heap_new w1 _) (tab_info.trans (congrArg some tab_len.symm)) (tab_zero.trans tab_len.symm) tab_one ?_; generalize ((w1.alloc (.cells Tryz.zeroCells134 134)).setRow w1.heap.size entCells) = W2 at hg hB hz ⊢)
  refine (bsearch_any w1.heap.size t W2 (ent_at hg) (by omega)).mono ?_
  rintro e w3 ⟨rfl, hb3⟩
  have hE3 := (ent_at hg).go hb3 (by omega)
  have HB := Lib.hid (hB.trans (hb3.mono hB.size))
  have hnm : (q1, q2) = if bsr t 183 0 183 < 183 ∧ enm (bsr t 183 0 183) = t then (Go.Utf8.encode (enn (bsr t 183 0 183)), true) else (⟨#[]⟩, false) := HQ.out.symm
  clear hg hB hb3 hz hb1
  generalize bsr t 183 0 183 = R at hnm ⊢
  by_cases hc : R < 183 ∧ enm R = t
  · rw [if_pos hc] at hnm
    rw [decide_eq_true hc]
    have HN := Lib.hid (Prod.mk.inj hnm)
    have hEk := hE3 R hc.1
    have h183 := hc.1
    have hd1 : decide (R < 183) = true := decide_eq_true hc.1
    clear hnm hc hE3
    go_wp2
    go_ret2
    exact ⟨ret_sb HN.out.1 HN.out.2, HB.out⟩
  · rw [if_neg hc] at hnm
    rw [decide_eq_false hc]
    have HN := Lib.hid (Prod.mk.inj hnm)
    clear hnm hc hE3
    go_wp2
    go_ret2
    exact ⟨ret_sb HN.out.1 HN.out.2, HB.out⟩
end Go.Proofs.YtekifcbokdidlaaGreatDoor.PA

namespace Go.Proofs.YtekifcbokdidlaaGreatDoor.PA
open Go.RowKit Go.Proofs.YtekifcbokdidlaaGreatDoor.Pl Go.Proofs.YtekifcbokdidlaaGreatDoorW.PrintWords Go.Proofs.YtekifcbokdidlaaGreatDoorW.PrintLast Go.Proofs.YtekifcbokdidlaaGreatDoorW.PrintMore
set_option linter.unusedVariables false

/-- A digit; a digit of sixteen. -/
def dg (x : UInt8) : Bool := decide (48 ≤ x.toNat ∧ x.toNat ≤ 57)
def hxd (x : UInt8) : Bool := decide (dOk 16 x)
theorem digit_any (x : UInt8) (w : World) : Calls Tryz.prog 121 #[.int .u8 (x.toNat : Int)] w fun e w' => e = .returned (.bool (dg x)) ∧ w = w' := by
  by_cases h1 : 48 ≤ x.toNat
  · by_cases h2 : x.toNat ≤ 57
    · have HD := Lib.hid (show dg x = true from decide_eq_true ⟨h1, h2⟩)
      have q1 : decide ((x.toNat : Int) ≤ 57) = true := decide_eq_true (by omega)
      go_enter Tryz.func121, Tryz.ntmps121
      go_wp2
      go_ret
      exact ⟨congrArg (fun z => Ending.returned (.bool z)) HD.out.symm, rfl⟩
    · have HD := Lib.hid (show dg x = false from decide_eq_false (fun h => h2 h.2))
      have h3 : 57 < x.toNat := by omega
      have q1 : decide ((x.toNat : Int) ≤ 57) = false := decide_eq_false (by omega)
      go_enter Tryz.func121, Tryz.ntmps121
      go_wp2
      go_ret
      exact ⟨congrArg (fun z => Ending.returned (.bool z)) HD.out.symm, rfl⟩
  · have HD := Lib.hid (show dg x = false from decide_eq_false (fun h => h1 h.1))
    have h3 : x.toNat < 48 := by omega
    go_enter Tryz.func121, Tryz.ntmps121
    go_wp2
    go_ret
    exact ⟨congrArg (fun z => Ending.returned (.bool z)) HD.out.symm, rfl⟩
theorem hexd_any (x : UInt8) (w : World) : Calls Tryz.prog 120 #[.int .u8 (x.toNat : Int)] w fun e w' => e = .returned (.bool (hxd x)) ∧ w = w' := by
  have hdg := digit_any x
  have h32 := or32 x
  cases hd : dg x with
  | true =>
    have HD := Lib.hid (show hxd x = true from decide_eq_true (.inl (of_decide_eq_true hd)))
    rw [hd] at hdg
    have HG := Lib.hid hdg
    clear hdg hd
    go_enter Tryz.func120, Tryz.ntmps120
    go_wp2_with (first | (go_at_call 121; refine (HG.out _).mono ?_; rintro e w' ⟨rfl, rfl⟩))
    go_ret
    exact ⟨congrArg (fun z => Ending.returned (.bool z)) HD.out.symm, rfl⟩
  | false =>
    have hnd := of_decide_eq_false hd
    rw [hd] at hdg
    have HG := Lib.hid hdg
    have hhx : hxd x = decide (97 ≤ (x.toNat ||| 32) ∧ (x.toNat ||| 32) ≤ 102) := by
      unfold hxd
      rw [decide_eq_decide]
      exact ⟨fun h => h.elim (fun h => absurd h hnd) (fun h => h.2), fun h => .inr ⟨rfl, h⟩⟩
    clear hdg hd hnd
    generalize (x.toNat ||| 32) = m at *
    by_cases h1 : 97 ≤ m
    · by_cases h2 : m ≤ 102
      · rw [decide_eq_true ⟨h1, h2⟩] at hhx
        have HD := Lib.hid hhx
        have q1 : decide ((m : Int) ≤ 102) = true := decide_eq_true (by omega)
        clear hhx
        go_enter Tryz.func120, Tryz.ntmps120
        go_wp2_with (first | (go_at_call 121; refine (HG.out _).mono ?_; rintro e w' ⟨rfl, rfl⟩))
        go_ret
        exact ⟨congrArg (fun z => Ending.returned (.bool z)) HD.out.symm, rfl⟩
      · rw [decide_eq_false (fun h => h2 h.2)] at hhx
        have HD := Lib.hid hhx
        have h3 : 102 < m := by omega
        have q1 : decide ((m : Int) ≤ 102) = false := decide_eq_false (by omega)
        clear hhx h2
        go_enter Tryz.func120, Tryz.ntmps120
        go_wp2_with (first | (go_at_call 121; refine (HG.out _).mono ?_; rintro e w' ⟨rfl, rfl⟩))
        go_ret
        exact ⟨congrArg (fun z => Ending.returned (.bool z)) HD.out.symm, rfl⟩
    · rw [decide_eq_false (fun h => h1 h.1)] at hhx
      have HD := Lib.hid hhx
      have h3 : m < 97 := by omega
      clear hhx h1
      go_enter Tryz.func120, Tryz.ntmps120
      go_wp2_with (first | (go_at_call 121; refine (HG.out _).mono ?_; rintro e w' ⟨rfl, rfl⟩))
      go_ret
      exact ⟨congrArg (fun z => Ending.returned (.bool z)) HD.out.symm, rfl⟩
/-- The character of a number in digits. -/
def fixr (n : Nat) : Int := if n = 0 ∨ Lib.validRune (n : Int) = false then 65533 else (n : Int)
def chr (b most : Nat) (ok : UInt8 → Bool) (s : List UInt8) : ByteArray × Bool := if s = [] ∨ most < s.length ∨ s.all ok = false then (⟨#[]⟩, false) else (Go.Utf8.encode (fixr (num b s)), true)
set_option maxHeartbeats 4000000 in
set_option maxRecDepth 100000 in
theorem all10 (s : List UInt8) (hs : s.length ≤ 1099511627776) (w : World) : Calls Tryz.prog 136 #[.string (B s), .func (.func 121) #[] #[]] w fun e w' => e = .returned (.bool (s.all dg)) ∧ w = w' := by
  have hsz : (B s).size = s.length := B_size s
  go_enter Tryz.func136, Tryz.ntmps136
  go_wp2
  go_loop [8] (fun vi => ∃ k : Nat, vi = .int .i64 k ∧ k ≤ s.length ∧ Hid ((s.take k).all dg = true))
    (fun vi => s.length - (intOf vi).toNat)
  case atStart => exact ⟨0, rfl, by omega, by rw [List.take_zero]; rfl⟩
  case round =>
    obtain ⟨k, rfl, hk, HA⟩ := hrel
    by_cases hkn : k < s.length
    · have hks : k < (B s).size := by omega
      have hi : (B s)[k]'hks = s[k] := List.getElem_toArray hkn
      have hall : (s.take (k + 1)).all dg = dg s[k] := by rw [← List.take_append_getElem hkn, List.all_append, HA.out, Bool.true_and, List.all_cons, List.all_nil, Bool.and_true]; rfl
      cases hok : dg s[k] with
      | true =>
        have HN := Lib.hid (show (s.take (k + 1)).all dg = true by rw [hall, hok])
        have HP := Lib.hid (show ∀ w, Calls Tryz.prog 121 #[.int .u8 (((B s)[k]'hks).toNat : Int)] w fun e w' => e = .returned (.bool true) ∧ w = w' by rw [hi]; intro w; have := digit_any s[k] w; rw [hok] at this; exact this)
        clear hi hall hok HA
        go_wp2_with (first | (go_at_call 121; refine (HP.out _).mono ?_; rintro e w' ⟨rfl, rfl⟩))
        go_round
        case rel => exact ⟨k + 1, by go_num, by omega, HN⟩
        case measure => simp [intOf]; omega
      | false =>
        have HN := Lib.hid (show s.all dg = false by
          rw [← Bool.not_eq_true]
          intro h
          have := List.all_eq_true.1 h _ (List.getElem_mem hkn)
          exact absurd (this.symm.trans hok) (by decide))
        have HP := Lib.hid (show ∀ w, Calls Tryz.prog 121 #[.int .u8 (((B s)[k]'hks).toNat : Int)] w fun e w' => e = .returned (.bool false) ∧ w = w' by rw [hi]; intro w; have := digit_any s[k] w; rw [hok] at this; exact this)
        clear hi hall hok HA
        go_wp2_with (first | (go_at_call 121; refine (HP.out _).mono ?_; rintro e w' ⟨rfl, rfl⟩))
        go_ret
        exact ⟨congrArg (fun z => Ending.returned (.bool z)) HN.out.symm, rfl⟩
    · have HN := Lib.hid (show s.all dg = true by rw [← HA.out, List.take_of_length_le (by omega)])
      have hkb : decide (k < (B s).size) = false := decide_eq_false (by omega)
      clear HA
      go_wp2
      go_ret
      exact ⟨congrArg (fun z => Ending.returned (.bool z)) HN.out.symm, rfl⟩
set_option maxHeartbeats 4000000 in
set_option maxRecDepth 100000 in
theorem chr10 (s : List UInt8) (hs : s.length ≤ 1099511627776) (w : World) : Calls Tryz.prog 119 #[.string (B s), .int .i64 10, .int .i64 7, .func (.func 121) #[] #[]] w fun e w' => e = .returned (.tuple #[.string (chr 10 7 dg s).1, .bool (chr 10 7 dg s).2]) ∧ Below w.heap.size w w' := by
  have hsz : (B s).size = s.length := B_size s
  obtain ⟨⟨q1, q2⟩, hq⟩ : ∃ q, chr 10 7 dg s = q := ⟨_, rfl⟩
  rw [hq]
  unfold chr at hq
  by_cases h0 : s = []
  · rw [if_pos (.inl h0)] at hq
    have HQ := Lib.hid (Prod.mk.inj hq)
    subst h0
    have hemp : (B []).toList = [] := B_toList []
    have hem2 : (B []).toList.isEmpty = true := by rw [hemp]; rfl
    clear hq
    go_enter Tryz.func119, Tryz.ntmps119
    go_wp2
    go_ret2
    exact ⟨ret_sb HQ.out.1.symm HQ.out.2.symm, Below.refl _ _⟩
  · have hemp : (B s).toList.isEmpty = false := by
      rw [B_toList]
      cases s with
      | nil => exact absurd rfl h0
      | cons _ _ => rfl
    by_cases h1 : 7 < s.length
    · rw [if_pos (.inr (.inl h1))] at hq
      have HQ := Lib.hid (Prod.mk.inj hq)
      have h2 : 7 < (B s).size := by omega
      clear hq h0
      go_enter Tryz.func119, Tryz.ntmps119
      go_wp2
      go_ret2
      exact ⟨ret_sb HQ.out.1.symm HQ.out.2.symm, Below.refl _ _⟩
    · have h2 : (B s).size ≤ 7 := by omega
      have hall := all10 s hs
      cases ha : s.all dg with
      | false =>
        rw [if_pos (.inr (.inr ha))] at hq
        have HQ := Lib.hid (Prod.mk.inj hq)
        rw [ha] at hall
        have HA := Lib.hid hall
        clear hq hall ha h0 h1
        go_enter Tryz.func119, Tryz.ntmps119
        go_wp2_with (first | (go_at_call 136; refine (HA.out _).mono ?_; rintro e w' ⟨rfl, rfl⟩))
        go_ret2
        exact ⟨ret_sb HQ.out.1.symm HQ.out.2.symm, Below.refl _ _⟩
      | true =>
        rw [if_neg (by rintro (h | h | h); exact h0 h; exact h1 h; rw [ha] at h; cases h)] at hq
        rw [ha] at hall
        have HA := Lib.hid hall
        have hdk : ∀ x ∈ s, dOk 10 x := fun x hx => (show dg x = true → dOk 10 x from fun h => .inl (of_decide_eq_true h)) (List.all_eq_true.1 ha x hx)
        have HP := Lib.hid (parseInt10 s h0 (by omega) hdk)
        have hlt := num_lt 10 (by decide) s.length s rfl hdk
        have h16 : (16 : Nat) ^ s.length ≤ 16 ^ 7 := Nat.pow_le_pow_right (by decide) (by omega)
        obtain ⟨nn, hnn⟩ : ∃ nn : Nat, num 10 s = nn := ⟨_, rfl⟩
        rw [hnn] at HP hq hlt
        have n1 : nn ≤ 268435455 := by omega
        clear hall ha h0 h1 hdk hlt h16 hnn
        by_cases hz : nn = 0
        · rw [show fixr nn = 65533 from if_pos (.inl hz)] at hq
          have HQ := Lib.hid (Prod.mk.inj hq)
          clear hq
          subst hz
          go_enter Tryz.func119, Tryz.ntmps119
          go_wp2_with (first | (go_at_call 136; refine (HA.out _).mono ?_; rintro e w' ⟨rfl, rfl⟩) | (go_at_call 137; refine (HP.out _).mono ?_; rintro e w' ⟨rfl, hb⟩; have HB := Lib.hid hb; clear hb))
          go_ret2
          exact ⟨ret_sb HQ.out.1.symm HQ.out.2.symm, HB.out⟩
        · have hzb : ((nn : Int) == 0) = false := beq_eq_false_iff_ne.2 (by omega)
          have n0 : 0 < nn := by omega
          cases hv : Lib.validRune (nn : Int) with
          | true =>
            rw [show fixr nn = (nn : Int) from if_neg (by rintro (h | h); exact hz h; rw [hv] at h; cases h)] at hq
            have HQ := Lib.hid (Prod.mk.inj hq)
            have HV := Lib.hid (show ∀ w, Calls Tryz.prog 138 #[.int .i32 (nn : Int)] w fun e w' => e = .returned (.bool true) ∧ w' = w from fun w => by have := Tryz.utf8_ValidRune (nn : Int) w; rw [hv] at this; exact this)
            clear hq hv hz
            go_enter Tryz.func119, Tryz.ntmps119
            go_wp2_with (first | (go_at_call 136; refine (HA.out _).mono ?_; rintro e w' ⟨rfl, rfl⟩) | (go_at_call 137; refine (HP.out _).mono ?_; rintro e w' ⟨rfl, hb⟩; have HB := Lib.hid hb; clear hb) | (go_at_call 138; refine (HV.out _).mono ?_; rintro e w' ⟨rfl, rfl⟩))
            go_ret2
            exact ⟨ret_sb HQ.out.1.symm HQ.out.2.symm, HB.out⟩
          | false =>
            rw [show fixr nn = 65533 from if_pos (.inr hv)] at hq
            have HQ := Lib.hid (Prod.mk.inj hq)
            have HV := Lib.hid (show ∀ w, Calls Tryz.prog 138 #[.int .i32 (nn : Int)] w fun e w' => e = .returned (.bool false) ∧ w' = w from fun w => by have := Tryz.utf8_ValidRune (nn : Int) w; rw [hv] at this; exact this)
            clear hq hv hz
            go_enter Tryz.func119, Tryz.ntmps119
            go_wp2_with (first | (go_at_call 136; refine (HA.out _).mono ?_; rintro e w' ⟨rfl, rfl⟩) | (go_at_call 137; refine (HP.out _).mono ?_; rintro e w' ⟨rfl, hb⟩; have HB := Lib.hid hb; clear hb) | (go_at_call 138; refine (HV.out _).mono ?_; rintro e w' ⟨rfl, rfl⟩))
            go_ret2
            exact ⟨ret_sb HQ.out.1.symm HQ.out.2.symm, HB.out⟩
set_option maxHeartbeats 4000000 in
set_option maxRecDepth 100000 in
theorem all16 (s : List UInt8) (hs : s.length ≤ 1099511627776) (w : World) : Calls Tryz.prog 136 #[.string (B s), .func (.func 120) #[] #[]] w fun e w' => e = .returned (.bool (s.all hxd)) ∧ w = w' := by
  have hsz : (B s).size = s.length := B_size s
  go_enter Tryz.func136, Tryz.ntmps136
  go_wp2
  go_loop [8] (fun vi => ∃ k : Nat, vi = .int .i64 k ∧ k ≤ s.length ∧ Hid ((s.take k).all hxd = true))
    (fun vi => s.length - (intOf vi).toNat)
  case atStart => exact ⟨0, rfl, by omega, by rw [List.take_zero]; rfl⟩
  case round =>
    obtain ⟨k, rfl, hk, HA⟩ := hrel
    by_cases hkn : k < s.length
    · have hks : k < (B s).size := by omega
      have hi : (B s)[k]'hks = s[k] := List.getElem_toArray hkn
      have hall : (s.take (k + 1)).all hxd = hxd s[k] := by rw [← List.take_append_getElem hkn, List.all_append, HA.out, Bool.true_and, List.all_cons, List.all_nil, Bool.and_true]; rfl
      cases hok : hxd s[k] with
      | true =>
        have HN := Lib.hid (show (s.take (k + 1)).all hxd = true by rw [hall, hok])
        have HP := Lib.hid (show ∀ w, Calls Tryz.prog 120 #[.int .u8 (((B s)[k]'hks).toNat : Int)] w fun e w' => e = .returned (.bool true) ∧ w = w' by rw [hi]; intro w; have := hexd_any s[k] w; rw [hok] at this; exact this)
        clear hi hall hok HA
        go_wp2_with (first | (go_at_call 120; refine (HP.out _).mono ?_; rintro e w' ⟨rfl, rfl⟩))
        go_round
        case rel => exact ⟨k + 1, by go_num, by omega, HN⟩
        case measure => simp [intOf]; omega
      | false =>
        have HN := Lib.hid (show s.all hxd = false by
          rw [← Bool.not_eq_true]
          intro h
          have := List.all_eq_true.1 h _ (List.getElem_mem hkn)
          exact absurd (this.symm.trans hok) (by decide))
        have HP := Lib.hid (show ∀ w, Calls Tryz.prog 120 #[.int .u8 (((B s)[k]'hks).toNat : Int)] w fun e w' => e = .returned (.bool false) ∧ w = w' by rw [hi]; intro w; have := hexd_any s[k] w; rw [hok] at this; exact this)
        clear hi hall hok HA
        go_wp2_with (first | (go_at_call 120; refine (HP.out _).mono ?_; rintro e w' ⟨rfl, rfl⟩))
        go_ret
        exact ⟨congrArg (fun z => Ending.returned (.bool z)) HN.out.symm, rfl⟩
    · have HN := Lib.hid (show s.all hxd = true by rw [← HA.out, List.take_of_length_le (by omega)])
      have hkb : decide (k < (B s).size) = false := decide_eq_false (by omega)
      clear HA
      go_wp2
      go_ret
      exact ⟨congrArg (fun z => Ending.returned (.bool z)) HN.out.symm, rfl⟩
set_option maxHeartbeats 4000000 in
set_option maxRecDepth 100000 in
theorem chr16 (s : List UInt8) (hs : s.length ≤ 1099511627776) (w : World) : Calls Tryz.prog 119 #[.string (B s), .int .i64 16, .int .i64 6, .func (.func 120) #[] #[]] w fun e w' => e = .returned (.tuple #[.string (chr 16 6 hxd s).1, .bool (chr 16 6 hxd s).2]) ∧ Below w.heap.size w w' := by
  have hsz : (B s).size = s.length := B_size s
  obtain ⟨⟨q1, q2⟩, hq⟩ : ∃ q, chr 16 6 hxd s = q := ⟨_, rfl⟩
  rw [hq]
  unfold chr at hq
  by_cases h0 : s = []
  · rw [if_pos (.inl h0)] at hq
    have HQ := Lib.hid (Prod.mk.inj hq)
    subst h0
    have hemp : (B []).toList = [] := B_toList []
    have hem2 : (B []).toList.isEmpty = true := by rw [hemp]; rfl
    clear hq
    go_enter Tryz.func119, Tryz.ntmps119
    go_wp2
    go_ret2
    exact ⟨ret_sb HQ.out.1.symm HQ.out.2.symm, Below.refl _ _⟩
  · have hemp : (B s).toList.isEmpty = false := by
      rw [B_toList]
      cases s with
      | nil => exact absurd rfl h0
      | cons _ _ => rfl
    by_cases h1 : 6 < s.length
    · rw [if_pos (.inr (.inl h1))] at hq
      have HQ := Lib.hid (Prod.mk.inj hq)
      have h2 : 6 < (B s).size := by omega
      clear hq h0
      go_enter Tryz.func119, Tryz.ntmps119
      go_wp2
      go_ret2
      exact ⟨ret_sb HQ.out.1.symm HQ.out.2.symm, Below.refl _ _⟩
    · have h2 : (B s).size ≤ 6 := by omega
      have hall := all16 s hs
      cases ha : s.all hxd with
      | false =>
        rw [if_pos (.inr (.inr ha))] at hq
        have HQ := Lib.hid (Prod.mk.inj hq)
        rw [ha] at hall
        have HA := Lib.hid hall
        clear hq hall ha h0 h1
        go_enter Tryz.func119, Tryz.ntmps119
        go_wp2_with (first | (go_at_call 136; refine (HA.out _).mono ?_; rintro e w' ⟨rfl, rfl⟩))
        go_ret2
        exact ⟨ret_sb HQ.out.1.symm HQ.out.2.symm, Below.refl _ _⟩
      | true =>
        rw [if_neg (by rintro (h | h | h); exact h0 h; exact h1 h; rw [ha] at h; cases h)] at hq
        rw [ha] at hall
        have HA := Lib.hid hall
        have hdk : ∀ x ∈ s, dOk 16 x := fun x hx => (show hxd x = true → dOk 16 x from fun h => of_decide_eq_true h) (List.all_eq_true.1 ha x hx)
        have HP := Lib.hid (parseInt16 s h0 (by omega) hdk)
        have hlt := num_lt 16 (by decide) s.length s rfl hdk
        have h16 : (16 : Nat) ^ s.length ≤ 16 ^ 7 := Nat.pow_le_pow_right (by decide) (by omega)
        obtain ⟨nn, hnn⟩ : ∃ nn : Nat, num 16 s = nn := ⟨_, rfl⟩
        rw [hnn] at HP hq hlt
        have n1 : nn ≤ 268435455 := by omega
        clear hall ha h0 h1 hdk hlt h16 hnn
        by_cases hz : nn = 0
        · rw [show fixr nn = 65533 from if_pos (.inl hz)] at hq
          have HQ := Lib.hid (Prod.mk.inj hq)
          clear hq
          subst hz
          go_enter Tryz.func119, Tryz.ntmps119
          go_wp2_with (first | (go_at_call 136; refine (HA.out _).mono ?_; rintro e w' ⟨rfl, rfl⟩) | (go_at_call 137; refine (HP.out _).mono ?_; rintro e w' ⟨rfl, hb⟩; have HB := Lib.hid hb; clear hb))
          go_ret2
          exact ⟨ret_sb HQ.out.1.symm HQ.out.2.symm, HB.out⟩
        · have hzb : ((nn : Int) == 0) = false := beq_eq_false_iff_ne.2 (by omega)
          have n0 : 0 < nn := by omega
          cases hv : Lib.validRune (nn : Int) with
          | true =>
            rw [show fixr nn = (nn : Int) from if_neg (by rintro (h | h); exact hz h; rw [hv] at h; cases h)] at hq
            have HQ := Lib.hid (Prod.mk.inj hq)
            have HV := Lib.hid (show ∀ w, Calls Tryz.prog 138 #[.int .i32 (nn : Int)] w fun e w' => e = .returned (.bool true) ∧ w' = w from fun w => by have := Tryz.utf8_ValidRune (nn : Int) w; rw [hv] at this; exact this)
            clear hq hv hz
            go_enter Tryz.func119, Tryz.ntmps119
            go_wp2_with (first | (go_at_call 136; refine (HA.out _).mono ?_; rintro e w' ⟨rfl, rfl⟩) | (go_at_call 137; refine (HP.out _).mono ?_; rintro e w' ⟨rfl, hb⟩; have HB := Lib.hid hb; clear hb) | (go_at_call 138; refine (HV.out _).mono ?_; rintro e w' ⟨rfl, rfl⟩))
            go_ret2
            exact ⟨ret_sb HQ.out.1.symm HQ.out.2.symm, HB.out⟩
          | false =>
            rw [show fixr nn = 65533 from if_pos (.inr hv)] at hq
            have HQ := Lib.hid (Prod.mk.inj hq)
            have HV := Lib.hid (show ∀ w, Calls Tryz.prog 138 #[.int .i32 (nn : Int)] w fun e w' => e = .returned (.bool false) ∧ w' = w from fun w => by have := Tryz.utf8_ValidRune (nn : Int) w; rw [hv] at this; exact this)
            clear hq hv hz
            go_enter Tryz.func119, Tryz.ntmps119
            go_wp2_with (first | (go_at_call 136; refine (HA.out _).mono ?_; rintro e w' ⟨rfl, rfl⟩) | (go_at_call 137; refine (HP.out _).mono ?_; rintro e w' ⟨rfl, hb⟩; have HB := Lib.hid hb; clear hb) | (go_at_call 138; refine (HV.out _).mono ?_; rintro e w' ⟨rfl, rfl⟩))
            go_ret2
            exact ⟨ret_sb HQ.out.1.symm HQ.out.2.symm, HB.out⟩
end Go.Proofs.YtekifcbokdidlaaGreatDoor.PA
