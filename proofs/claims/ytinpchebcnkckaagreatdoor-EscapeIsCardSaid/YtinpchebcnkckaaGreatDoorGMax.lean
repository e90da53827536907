/-
  What the row's world gives a walk: internal/bytealg.MaxLen holds a whole number, below every block of a call.
-/
import Derived.Test.YtinpchebcnkckaaGreatDoorPAx0
import Derived.Test.YtinpchebcnkckaaGreatDoorShelf
namespace Go.Proofs.YtinpchebcnkckaaGreatDoor.PA
open Go.RowKit Go.Proofs.YtinpchebcnkckaaGreatDoorW.PrintWords

theorem ex_then_ret {next : Act → World → Prop} {Q : Exit → Act → World → Prop} {a : Act} {w : World} (h : Q Exit.ret a w) : Exit.then next Q Exit.ret a w := h
theorem ex_block_ret {id : Nat} {Q : Exit → Act → World → Prop} {a : Act} {w : World} (h : Q Exit.ret a w) : Exit.inBlock id Q Exit.ret a w := h
theorem ex_noGoto_ret {Q : Exit → Act → World → Prop} {a : Act} {w : World} (h : Q Exit.ret a w) : Exit.noGoto Q Exit.ret a w := h
theorem szw {p n q : Nat} {m : Int} (h : ¬ 9223372036854775807 < p + n + q) (h0 : 0 ≤ m) (hm : m ≤ ((p + q : Nat) : Int)) : wrap64 ((n : Int) + m) = (n : Int) + m := by unfold wrap64; omega
/-- internal/bytealg.MaxLen holds a whole number. -/
structure Laid (w : World) : Prop where
  ml : ∃ m : Int, w.cell? ⟨0, 0, none⟩ = some (.int .i64 m)
  size : 0 < w.heap.size
theorem Laid.go {w W : World} (h : Laid w) (hb : Below w.heap.size w W) : Laid W := by
  obtain ⟨m, hm⟩ := h.ml
  refine ⟨⟨m, ?_⟩, by have := h.size; have := hb.size; omega⟩
  rw [← hm]
  exact hb.cell (by have := h.size; show 0 < w.heap.size; omega)
end Go.Proofs.YtinpchebcnkckaaGreatDoor.PA
