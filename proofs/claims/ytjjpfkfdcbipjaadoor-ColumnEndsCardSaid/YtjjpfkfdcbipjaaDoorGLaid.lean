/-
  What the listed package-level variables give a walk: the two tables of unicode/utf8, below every block of a call.
-/
import Derived.Test.YtjjpfkfdcbipjaaDoorPAx0
import Derived.Test.YtjjpfkfdcbipjaaDoorShelf
import Derived.Lib.LaidU8
namespace Go.Proofs.YtjjpfkfdcbipjaaDoor.PA
open Go.RowKit Go.Proofs.YtjjpfkfdcbipjaaDoorW.PrintWords

theorem ex_then_ret {next : Act → World → Prop} {Q : Exit → Act → World → Prop} {a : Act} {w : World} (h : Q Exit.ret a w) : Exit.then next Q Exit.ret a w := h
theorem ex_block_ret {id : Nat} {Q : Exit → Act → World → Prop} {a : Act} {w : World} (h : Q Exit.ret a w) : Exit.inBlock id Q Exit.ret a w := h
theorem ex_noGoto_ret {Q : Exit → Act → World → Prop} {a : Act} {w : World} (h : Q Exit.ret a w) : Exit.noGoto Q Exit.ret a w := h
/-- The two tables of unicode/utf8 stand in their cells. -/
structure Laid (w : World) : Prop where
  tabs : Lib.Utf8Tabs 1 2 w
  size1 : 1 < w.heap.size
  size2 : 2 < w.heap.size
theorem Laid.go {w W : World} (h : Laid w) (hb : Below w.heap.size w W) : Laid W := by
  refine ⟨⟨fun c hc => ?_, fun i hi => ⟨?_, ?_⟩⟩, by have := h.size1; have := hb.size; omega, by have := h.size2; have := hb.size; omega⟩
  · rw [← h.tabs.1 c hc]
    exact hb.cell (by have := h.size1; show 1 < w.heap.size; omega)
  · rw [← (h.tabs.2 i hi).1]
    exact hb.cell (by have := h.size2; show 2 < w.heap.size; omega)
  · rw [← (h.tabs.2 i hi).2]
    exact hb.cell (by have := h.size2; show 2 < w.heap.size; omega)
end Go.Proofs.YtjjpfkfdcbipjaaDoor.PA
