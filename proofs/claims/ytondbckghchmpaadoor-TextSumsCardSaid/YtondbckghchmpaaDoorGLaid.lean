/-
  What the listed package-level variables give a walk: the two tables of unicode/utf8, below every block of a call.
-/
import Derived.Test.YtondbckghchmpaaDoorPAx0
import Derived.Test.YtondbckghchmpaaDoorShelf
import Derived.Lib.LaidU8
namespace Go.Proofs.YtondbckghchmpaaDoor.PA
open Go.RowKit Go.Proofs.YtondbckghchmpaaDoorW.PrintWords

theorem ex_then_ret {next : Act → World → Prop} {Q : Exit → Act → World → Prop} {a : Act} {w : World} (h : Q Exit.ret a w) : Exit.then next Q Exit.ret a w := h
theorem ex_block_ret {id : Nat} {Q : Exit → Act → World → Prop} {a : Act} {w : World} (h : Q Exit.ret a w) : Exit.inBlock id Q Exit.ret a w := h
theorem ex_noGoto_ret {Q : Exit → Act → World → Prop} {a : Act} {w : World} (h : Q Exit.ret a w) : Exit.noGoto Q Exit.ret a w := h
/-- The two tables of unicode/utf8 stand in their cells. -/
structure Laid (w : World) : Prop where
  tabs : Lib.Utf8Tabs 0 1 w
  size1 : 0 < w.heap.size
  size2 : 1 < w.heap.size
theorem Laid.go {w W : World} (h : Laid w) (hb : Below w.heap.size w W) : Laid W := by
  refine ⟨⟨fun c hc => ?_, fun i hi => ⟨?_, ?_⟩⟩, by have := h.size1; have := hb.size; omega, by have := h.size2; have := hb.size; omega⟩
  · rw [← h.tabs.1 c hc]
    exact hb.cell (by have := h.size1; show 0 < w.heap.size; omega)
  · rw [← (h.tabs.2 i hi).1]
    exact hb.cell (by have := h.size2; show 1 < w.heap.size; omega)
  · rw [← (h.tabs.2 i hi).2]
    exact hb.cell (by have := h.size2; show 1 < w.heap.size; omega)
end Go.Proofs.YtondbckghchmpaaDoor.PA
