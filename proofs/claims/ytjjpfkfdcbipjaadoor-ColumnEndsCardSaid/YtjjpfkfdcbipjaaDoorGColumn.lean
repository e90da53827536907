/-
  The contracts of column.Indent and column.Skip; a line is at most 2^40 bytes.
-/
import Derived.Test.YtjjpfkfdcbipjaaDoorPAx0
import Derived.Test.YtjjpfkfdcbipjaaDoorPBase
import Derived.Test.YtjjpfkfdcbipjaaDoorCol
import Derived.Test.YtjjpfkfdcbipjaaDoorGTrims
import Derived.Test.YtjjpfkfdcbipjaaDoorGBlanks
import Derived.WalkKit
import Derived.BigCall
import Derived.OneCell
import Derived.BigQuiet
import Derived.Deep.QuietTactic
namespace Go.Proofs.YtjjpfkfdcbipjaaDoor.PA
open Go.RowKit Go.Proofs.YtjjpfkfdcbipjaaDoorW.PrintWords Go.Proofs.YtjjpfkfdcbipjaaDoorW.PrintLast Go.Proofs.YtjjpfkfdcbipjaaDoorW.PrintMore Go.Proofs.YtjjpfkfdcbipjaaDoor.Pl
set_option linter.unusedVariables false

set_option maxHeartbeats 1000000 in
set_option maxRecDepth 100000 in
theorem column_Indent.walk (l : List UInt8) (col : Int) (w : World) (hl : l.length ≤ 1099511627776) :
    Calls Tryd.prog 11 #[.string (B l), .int .i64 col] w fun e w' => e = .returned (.tuple #[.int .i64 ((ind l (fromC col)).1 : Int), .int .i64 ((ind l (fromC col)).2 : Int)]) ∧ Below w.heap.size w w' := by
  have hz : (B l).size = l.length := B_size l
  go_enter Tryd.func11, Tryd.ntmps11
  go_wp2_with fail
  refine (from_fn _ _).mono ?_
  rintro e w1 ⟨rfl, rfl⟩
  rw [fromC_eq]
  go_wp2_with fail
  refine (blanks_indent l (fromC col) w.heap.size _ hl (fromC_le col) (by exact heap_alloc_new w _)).mono ?_
  rintro e w1 ⟨rfl, h1, h2, h3⟩
  have hle := (ind_le l (fromC col)).1
  have hz2 : (B (l.drop (ind l (fromC col)).2)).size = l.length - (ind l (fromC col)).2 := by rw [B_size, List.length_drop]
  have hc1 := cell_of_one h1
  have H1 := Aside0.mk h1
  have HB : Aside0 (Below w.heap.size w w1) := ⟨((Below.refl _ w).alloc (Nat.le_refl _) _).trans h2⟩
  clear h1 h2 h3
  obtain ⟨n, hn⟩ : ∃ n, (ind l (fromC col)).1 = n := ⟨_, rfl⟩
  obtain ⟨k, hk⟩ : ∃ k, (ind l (fromC col)).2 = k := ⟨_, rfl⟩
  rw [hn] at H1 hc1
  rw [hk] at hle hz2 ⊢
  have HN := Aside0.mk hn
  have HK := Aside0.mk hk
  clear hn hk
  go_wp2
  go_ret2
  have hk2 : (l.length : Int) - ((l.length - k : Nat) : Int) = (k : Int) := by omega
  refine ⟨?_, HB.out⟩
  rw [HN.out, HK.out]
  exact congrArg (fun z => Ending.returned (.tuple #[.int .i64 (n : Int), .int .i64 z])) hk2
def column_Indent.f (a0 : ByteArray) (a1 : Int) : Option (Int × Int) := if a0.size ≤ 1099511627776 then some (((ind a0.data.toList (fromC a1)).1 : Int), ((ind a0.data.toList (fromC a1)).2 : Int)) else none
theorem column_Indent.calls (a0 : ByteArray) (a1 : Int) (r1 r2 : Int) (w : World) (h : column_Indent.f a0 a1 = some (r1, r2)) :
    Calls Tryd.prog 11 #[.string a0, .int .i64 a1] w fun e w' => e = .returned (.tuple #[.int .i64 r1, .int .i64 r2]) ∧ Below w.heap.size w w' := by
  unfold column_Indent.f at h
  split at h
  · rename_i hc
    simp only [Option.some.injEq, Prod.mk.injEq] at h
    obtain ⟨rfl, rfl⟩ := h
    exact column_Indent.walk a0.data.toList a1 w (by rw [Array.length_toList]; exact hc)
  · cases h
end Go.Proofs.YtjjpfkfdcbipjaaDoor.PA
