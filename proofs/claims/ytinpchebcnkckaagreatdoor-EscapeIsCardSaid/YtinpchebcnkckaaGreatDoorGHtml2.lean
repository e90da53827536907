/-
  (*strings.Replacer).build at the eight texts: a record of 256 places and four signs. No condition.
-/
import Derived.Test.YtinpchebcnkckaaGreatDoorGHtml1
import Derived.Laws.Tables
import Derived.Laws.Cover3
import Derived.Laws.OwnMore
import Derived.Laws.MakeOwn
import Derived.Laws.AppendOwn
import Derived.Lib.ConvBytes
import Derived.Laws.BytesString
import Derived.Laws.IdiomStrings
import Derived.Laws.CopyOwn
namespace Go.Proofs.YtinpchebcnkckaaGreatDoor.PA
open Go.RowKit
set_option linter.unusedVariables false

/-- The four signs, and what stands for each, in the order in which they are laid. -/
def sgs : List UInt8 := [34, 62, 60, 38]
def rps : List (List UInt8) := [[38, 113, 117, 111, 116, 59], [38, 103, 116, 59], [38, 108, 116, 59], [38, 97, 109, 112, 59]]
/-- A row of bytes that stand for a sign. -/
def Rep1 (B c t : Nat) (v : Value) (l : List UInt8) (w : World) : Prop :=
  ∃ gx cap, v = .slice (some ⟨gx, 0, none⟩) l.length cap ∧ l.length ≤ cap ∧ B ≤ gx ∧ gx < w.heap.size ∧ gx ≠ c ∧ gx ≠ t ∧ ∀ j, j < l.length → w.cell? ⟨gx, j, none⟩ = some (.int .u8 (l.getD j 0).toNat)
/-- The record, k signs laid. -/
structure Bld (B c t k : Nat) (w : World) : Prop where
  lc : B ≤ c
  lt : B ≤ t
  ct : c ≠ t
  hc : c < w.heap.size
  ht : t < w.heap.size
  row : ∃ tc : Array Value, w.heap[t]? = some (.cells tc 9 (0, 0)) ∧ tc.size = 4 ∧ ∀ j, j < k → tc[j]? = some (.string ⟨#[sgs.getD j 0]⟩)
  ary : ∃ cc : Array Value, w.heap[c]? = some (.cells cc 96 (0, 0)) ∧ cc.size = 257 ∧ cc[256]? = some (.slice (some ⟨t, 0, none⟩) k 4) ∧
    (∀ j, j < k → ∃ v, cc[(sgs.getD j 0).toNat]? = some v ∧ Rep1 B c t v (rps.getD j []) w) ∧ ∀ x, x < 256 → (∀ j, j < k → (sgs.getD j 0).toNat ≠ x) → cc[x]? = some (.slice none 0 0)
theorem built96 (t : Nat) : (Tryz.prog.built 96 [(1, .slice (some ⟨t, 0, none⟩) 0 4)]) = some (Tryz.zeroCells96.setIfInBounds 256 (.slice (some ⟨t, 0, none⟩) 0 4)) := by kernel_rfl
theorem zero96 : Tryz.zeroCells96.size = 257 := by kernel_rfl
theorem zero96_eq : Tryz.zeroCells96 = Array.replicate 257 (.slice none 0 0) := by kernel_rfl
theorem info96 : (Tryz.prog.info? 96).map (·.size) = some 257 := by kernel_rfl
/-- A build whose cells are known. -/
theorem met_build {P : Program} {w : World} {ops : Array Oper} {rest : List Oper} {o : Oper} {a : Act} {Q : Exit → Act → World → Prop} {t : TypeId} {parts : Array (Nat × Operand)} {l : List (Nat × Value)} {v : Array Value}
    (hb : P.built t l = some v) (hg : o.guard = none) (ho : o.op = .build t parts) (hl : (parts.map fun (i, x) => (i, a.eval x)).toList = l) (h : wpList P ops Q rest (a.put o.dst (.agg v)) w) : wpList P ops Q (o :: rest) a w :=
  wpList_build hg t parts ho (by rw [hl, hb]; rfl) (by rw [hl, hb]; exact h)
theorem rec_one (t : Nat) : (Tryz.zeroCells96.setIfInBounds 256 (.slice (some ⟨t, 0, none⟩) 0 4)).all (·.oneCell') = true := by
  rw [zero96_eq]
  kernel_rfl
theorem heap96 (w : World) (mc : Array Value) : ((w.alloc (.cells mc 9)).alloc (.cells Tryz.zeroCells96 96)).heap[w.heap.size + 1]? = some (.cells Tryz.zeroCells96 96 (0, 0)) := by
  have h := heap_alloc_new (w.alloc (.cells mc 9)) (.cells Tryz.zeroCells96 96)
  rw [World.size_alloc] at h
  exact h
theorem size96 (t : Nat) : (Tryz.zeroCells96.setIfInBounds 256 (.slice (some ⟨t, 0, none⟩) 0 4)).size = 257 := by rw [Array.size_setIfInBounds, zero96]
theorem met_store96 {w : World} {ops : Array Oper} {rest : List Oper} {o : Oper} {a : Act} {Q : Exit → Act → World → Prop} {mc : Array Value} {x y : Operand} {t : Nat}
    (hgd : o.guard = none) (ho : o.op = .store 96 x y) (hx : a.eval x = .pointer (some ⟨w.heap.size + 1, 0, none⟩)) (hy : a.eval y = .agg (Tryz.zeroCells96.setIfInBounds 256 (.slice (some ⟨t, 0, none⟩) 0 4)))
    (h : wpList Tryz.prog ops Q rest (a.put o.dst undef) (((w.alloc (.cells mc 9)).alloc (.cells Tryz.zeroCells96 96)).setRow (w.heap.size + 1) (Tryz.zeroCells96.setIfInBounds 256 (.slice (some ⟨t, 0, none⟩) 0 4)))) :
    wpList Tryz.prog ops Q (o :: rest) a ((w.alloc (.cells mc 9)).alloc (.cells Tryz.zeroCells96 96)) :=
  wpList_store_row hgd _ x y ho (w.heap.size + 1) _ hx hy 96 Tryz.zeroCells96 (heap96 w mc) (info96.trans (congrArg some (size96 t).symm)) (zero96.trans (size96 t).symm) (rec_one t) h
theorem eql_nil (a : Option Addr) (l c : Nat) (W : World) : (binOp .eql 27 (.slice a l c) (.slice none 0 0)).run Tryz.prog W = .ok (.bool a.isNone) W := by
  simp only [binOp]
  simp [run_equal_slice_nil W 27 5 a l c Tryz.underlying27]
/-- Behind the append: the sign's text lies in the row of signs. -/
def wA (wr : World) (t k : Nat) (tc : Array Value) (x : Int) (S : ByteArray) : World :=
  ((wr.alloc (.cells #[.int .u8 x] 5)).alloc (.cells #[.string S] 9)).setRow t (tc.toList.take k ++ [Value.string S] ++ tc.toList.drop (k + 1)).toArray
def wB (wr : World) (t k : Nat) (tc : Array Value) (x : Int) (S : ByteArray) (c : Nat) : World := (wA wr t k tc x S).setCell ⟨c, 256, none⟩ (.slice (some ⟨t, 0, none⟩) (k + 1) 4)
def wC (wr : World) (t k : Nat) (tc : Array Value) (x : Int) (S : ByteArray) (c : Nat) (R : ByteArray) : World := Lib.bytesWorld (wB wr t k tc x S c) 5 R
section
variable {wr : World} {t k c : Nat} {tc cc : Array Value} {x : Int} {S R : ByteArray}
theorem wA_size : (wA wr t k tc x S).heap.size = wr.heap.size + 2 := by simp [wA]
theorem wA_old {j : Nat} (h : j < wr.heap.size) (hj : j ≠ t) : (wA wr t k tc x S).heap[j]? = wr.heap[j]? := by
  unfold wA
  rw [setRow_other _ _ _ _ hj, Below.heap_alloc _ _ _ (by simp; omega), Below.heap_alloc _ _ _ h]
theorem wA_row (ht : wr.heap[t]? = some (.cells tc 9 (0, 0))) : (wA wr t k tc x S).heap[t]? = some (.cells (tc.toList.take k ++ [Value.string S] ++ tc.toList.drop (k + 1)).toArray 9 (0, 0)) := by
  have hl : t < wr.heap.size := (Array.getElem?_eq_some_iff.1 ht).1
  refine setRow_heap _ t tc _ _ _ ?_
  rw [Below.heap_alloc _ _ _ (by simp; omega), Below.heap_alloc _ _ _ hl]
  exact ht
theorem wB_size : (wB wr t k tc x S c).heap.size = wr.heap.size + 2 := by unfold wB; rw [World.size_setCell, wA_size]
theorem wB_old {j : Nat} (h : j < wr.heap.size) (hj : j ≠ t) (hc : j ≠ c) : (wB wr t k tc x S c).heap[j]? = wr.heap[j]? := by
  unfold wB
  rw [Below.heap_setCell _ _ _ _ hc, wA_old h hj]
theorem wB_row (ht : wr.heap[t]? = some (.cells tc 9 (0, 0))) (htc : t ≠ c) : (wB wr t k tc x S c).heap[t]? = some (.cells (tc.toList.take k ++ [Value.string S] ++ tc.toList.drop (k + 1)).toArray 9 (0, 0)) := by
  unfold wB
  rw [Below.heap_setCell _ _ _ _ htc, wA_row ht]
theorem wB_rec (hc : wr.heap[c]? = some (.cells cc 96 (0, 0))) (htc : c ≠ t) : (wB wr t k tc x S c).heap[c]? = some (.cells (cc.setIfInBounds 256 (.slice (some ⟨t, 0, none⟩) (k + 1) 4)) 96 (0, 0)) := by
  have hl : c < wr.heap.size := (Array.getElem?_eq_some_iff.1 hc).1
  have h1 : (wA wr t k tc x S).heap[c]? = some (.cells cc 96 (0, 0)) := by rw [wA_old hl htc]; exact hc
  unfold wB
  rw [setCell_eq_setRow _ _ _ _ _ _ _ h1]
  exact setRow_heap _ _ _ _ _ _ h1
theorem wC_size : (wC wr t k tc x S c R).heap.size = wr.heap.size + 3 := by unfold wC; rw [Lib.bytesWorld_size, wB_size]
theorem wC_old {j : Nat} (h : j < wr.heap.size) (hj : j ≠ t) (hc : j ≠ c) : (wC wr t k tc x S c R).heap[j]? = wr.heap[j]? := by
  unfold wC
  rw [Lib.bytesWorld_at_old _ _ _ _ (by rw [wB_size]; omega), wB_old h hj hc]
theorem wC_row (ht : wr.heap[t]? = some (.cells tc 9 (0, 0))) (htc : t ≠ c) : (wC wr t k tc x S c R).heap[t]? = some (.cells (tc.toList.take k ++ [Value.string S] ++ tc.toList.drop (k + 1)).toArray 9 (0, 0)) := by
  have hl : t < wr.heap.size := (Array.getElem?_eq_some_iff.1 ht).1
  unfold wC
  rw [Lib.bytesWorld_at_old _ _ _ _ (by rw [wB_size]; omega), wB_row ht htc]
theorem wC_rec (hc : wr.heap[c]? = some (.cells cc 96 (0, 0))) (htc : c ≠ t) : (wC wr t k tc x S c R).heap[c]? = some (.cells (cc.setIfInBounds 256 (.slice (some ⟨t, 0, none⟩) (k + 1) 4)) 96 (0, 0)) := by
  have hl : c < wr.heap.size := (Array.getElem?_eq_some_iff.1 hc).1
  unfold wC
  rw [Lib.bytesWorld_at_old _ _ _ _ (by rw [wB_size]; omega), wB_rec hc htc]
theorem wA_run (ht : wr.heap[t]? = some (.cells tc 9 (0, 0))) (hs : tc.size = 4) (hk : k < 4) (ty : TypeId) :
    (Builtin.append_ #[45, 45] ty #[.slice (some ⟨t, 0, none⟩) k 4, .slice (some ⟨wr.heap.size + 1, 0, none⟩) 1 1]).run Tryz.prog ((wr.alloc (.cells #[.int .u8 x] 5)).alloc (.cells #[.string S] 9)) = .ok (.slice (some ⟨t, 0, none⟩) (k + 1) 4) (wA wr t k tc x S) := by
  obtain ⟨i0, hi, hz0, hz1, hz2⟩ := info_parts (show (Tryz.prog.info? 9).map (fun i => (i.zero, i.size, i.bytes)) = some (some (.string ByteArray.empty), 1, 16) by kernel_rfl)
  have hl : t < wr.heap.size := (Array.getElem?_eq_some_iff.1 ht).1
  have h := run_append_room (P := Tryz.prog) ((wr.alloc (.cells #[.int .u8 x] 5)).alloc (.cells #[.string S] 9)) 45 ty 9 i0 Tryz.underlying45 hi t k 4 tc (by rw [Below.heap_alloc _ _ _ (by simp; omega), Below.heap_alloc _ _ _ hl]; exact ht) ⟨wr.heap.size + 1, 0, none⟩ 1 1 [.string S] (by rw [hz1]; rfl) (by
    intro j u hu
    cases j with
    | zero =>
      obtain rfl := Option.some.inj hu
      simp [Addr.add]
    | succ j => simp at hu) (by intro u hu; rw [List.mem_singleton] at hu; subst hu; rfl) (by omega) (by rw [hz1, hs]; simp; omega)
  rw [h, hz1]
  simp [wA]
theorem bld_step {B : Nat} (hk : k < 4) (HD : Bld B c t k wr) (ht1 : wr.heap[t]? = some (.cells tc 9 (0, 0))) (ht2 : tc.size = 4) (ht3 : ∀ j, j < k → tc[j]? = some (.string ⟨#[sgs.getD j 0]⟩)) (hB : B ≤ wr.heap.size)
    (hc1 : wr.heap[c]? = some (.cells cc 96 (0, 0))) (hc2 : cc.size = 257) (hc3 : cc[256]? = some (.slice (some ⟨t, 0, none⟩) k 4))
    (hc4 : ∀ j, j < k → ∃ v, cc[(sgs.getD j 0).toNat]? = some v ∧ Rep1 B c t v (rps.getD j []) wr) (hc5 : ∀ x, x < 256 → (∀ j, j < k → (sgs.getD j 0).toNat ≠ x) → cc[x]? = some (.slice none 0 0))
    (hS : S = ⟨#[sgs.getD k 0]⟩) (hR : R = ⟨(rps.getD k []).toArray⟩) {m cap : Nat} (hm : m = (rps.getD k []).length) (hcap : m ≤ cap) {n : Nat} (hn : n = (sgs.getD k 0).toNat) :
    Bld B c t (k + 1) ((wC wr t k tc x S c R).setCell ⟨c, n, none⟩ (.slice (some ⟨wr.heap.size + 2, 0, none⟩) m cap)) := by
  subst hS hR hm hn
  have hlt : t < wr.heap.size := (Array.getElem?_eq_some_iff.1 ht1).1
  have hlc : c < wr.heap.size := (Array.getElem?_eq_some_iff.1 hc1).1
  have hct := HD.ct
  have hr := wC_rec (k := k) (tc := tc) (x := x) (S := ⟨#[sgs.getD k 0]⟩) (R := ⟨(rps.getD k []).toArray⟩) hc1 hct
  refine { lc := HD.lc, lt := HD.lt, ct := hct, hc := by rw [World.size_setCell, wC_size]; omega, ht := by rw [World.size_setCell, wC_size]; omega, row := ?_, ary := ?_ }
  · refine ⟨_, by rw [Below.heap_setCell _ _ _ _ (Ne.symm hct)]; exact wC_row ht1 (Ne.symm hct), ?_, ?_⟩
    · simp [ht2]; omega
    · intro j hj
      rw [List.getElem?_toArray]
      rcases Nat.lt_succ_iff_lt_or_eq.1 hj with h | rfl
      · rw [List.append_assoc, List.getElem?_append_left (by rw [List.length_take, Array.length_toList]; omega), List.getElem?_take, if_pos h, Array.getElem?_toList]
        exact ht3 j h
      · rw [List.append_assoc, List.getElem?_append_right (by rw [List.length_take, Array.length_toList]; omega), List.length_take, Array.length_toList, show j - min j tc.size = 0 by omega]
        rfl
  · have hn256 : (sgs.getD k 0).toNat < 256 := (sgs.getD k 0).toNat_lt
    refine ⟨_, by rw [setCell_eq_setRow _ _ _ _ _ _ _ hr]; exact setRow_heap _ _ _ _ _ _ hr, ?_, ?_, ?_, ?_⟩
    · simp [hc2]
    · rw [Array.getElem?_setIfInBounds_ne (by omega), Array.getElem?_setIfInBounds_self_of_lt (by omega)]
    · intro j hj
      have hold : ∀ v, Rep1 B c t v (rps.getD j []) wr → Rep1 B c t v (rps.getD j []) ((wC wr t k tc x ⟨#[sgs.getD k 0]⟩ c ⟨(rps.getD k []).toArray⟩).setCell ⟨c, (sgs.getD k 0).toNat, none⟩ (.slice (some ⟨wr.heap.size + 2, 0, none⟩) (rps.getD k []).length cap)) := by
        rintro v ⟨gx, cp, h1, h2, h3, h4, h5, h6, h7⟩
        refine ⟨gx, cp, h1, h2, h3, by rw [World.size_setCell, wC_size]; omega, h5, h6, fun i hi => ?_⟩
        rw [← h7 i hi]
        refine World.cell?_of_block ?_
        rw [Below.heap_setCell _ _ _ _ h5]
        exact wC_old h4 h6 h5
      rcases Nat.lt_succ_iff_lt_or_eq.1 hj with h | rfl
      · obtain ⟨v, h1, h2⟩ := hc4 j h
        have hne : (sgs.getD k 0).toNat ≠ (sgs.getD j 0).toNat := by
          have : ∀ k : Fin 4, ∀ j : Fin 4, j < k → (sgs.getD k.val 0).toNat ≠ (sgs.getD j.val 0).toNat := by decide
          exact this ⟨k, hk⟩ ⟨j, by omega⟩ h
        have h256 : (sgs.getD j 0).toNat < 256 := (sgs.getD j 0).toNat_lt
        exact ⟨v, by rw [Array.getElem?_setIfInBounds_ne hne, Array.getElem?_setIfInBounds_ne (by omega)]; exact h1, hold v h2⟩
      · refine ⟨_, by rw [Array.getElem?_setIfInBounds_self_of_lt (by rw [Array.size_setIfInBounds]; omega)], _, cap, rfl, hcap, by omega, by rw [World.size_setCell, wC_size]; omega, by omega, by omega, fun i hi => ?_⟩
        have e1 : ∀ W : World, wr.heap.size + 2 ≠ c → (W.setCell ⟨c, (sgs.getD j 0).toNat, none⟩ (.slice (some ⟨wr.heap.size + 2, 0, none⟩) (rps.getD j []).length cap)).cell? ⟨wr.heap.size + 2, i, none⟩ = W.cell? ⟨wr.heap.size + 2, i, none⟩ := fun W h => World.cell?_of_block (Below.heap_setCell _ _ _ _ h)
        rw [e1 _ (by omega)]
        have e2 := Lib.bytesWorld_cell (wB wr t j tc x ⟨#[sgs.getD j 0]⟩ c) 5 ⟨(rps.getD j []).toArray⟩ i hi
        rw [wB_size] at e2
        exact e2
    · intro y hy hn
      have h1 := hn k (by omega)
      rw [Array.getElem?_setIfInBounds_ne h1, Array.getElem?_setIfInBounds_ne (by omega)]
      exact hc5 y hy (fun j hj => hn j (by omega))
theorem wC_below {w : World} {n : Nat} {v : Value} (h : Below w.heap.size w wr) (hbt : w.heap.size ≤ t) (hbc : w.heap.size ≤ c) : Below w.heap.size w ((wC wr t k tc x S c R).setCell ⟨c, n, none⟩ v) := by
  have hs := h.size
  refine Below.setCell ?_ hbc v
  have h1 : Below w.heap.size w (wA wr t k tc x S) := below_setRow ((h.alloc hs _).alloc (by simp; omega) _) hbt _
  have h2 : Below w.heap.size w (wB wr t k tc x S c) := Below.setCell h1 hbc _
  exact h2.trans ⟨rfl, rfl, rfl, by unfold wC; rw [Lib.bytesWorld_size]; omega, fun j hj => Lib.bytesWorld_at_old _ _ _ j (by rw [wB_size]; omega)⟩
end
/-- The record at its start. -/
theorem bld0 (w : World) (mc : Array Value) (hm : mc.size = 4) : Hid (Bld w.heap.size (w.heap.size + 1) w.heap.size 0 (((w.alloc (.cells mc 9)).alloc (.cells Tryz.zeroCells96 96)).setRow (w.heap.size + 1) (Tryz.zeroCells96.setIfInBounds 256 (.slice (some ⟨w.heap.size, 0, none⟩) 0 4)))) := by
  refine hid0 { lc := Nat.le_succ _, lt := Nat.le_refl _, ct := by omega, hc := by simp, ht := by simp; omega, row := ⟨mc, ?_, hm, fun j hj => by omega⟩, ary := ⟨_, setRow_heap _ _ _ _ _ _ (heap96 w mc), size96 _, ?_, fun j hj => by omega, fun x hx _ => ?_⟩ }
  · rw [setRow_other _ _ _ _ (by omega), Below.heap_alloc _ _ _ (by simp)]
    exact heap_alloc_new w _
  · rw [Array.getElem?_setIfInBounds_self_of_lt (by rw [zero96]; decide)]
  · rw [Array.getElem?_setIfInBounds_ne (by omega), zero96_eq, Array.getElem?_replicate, if_pos (by omega)]
theorem below0 (w : World) (mc : Array Value) : Below w.heap.size w (((w.alloc (.cells mc 9)).alloc (.cells Tryz.zeroCells96 96)).setRow (w.heap.size + 1) (Tryz.zeroCells96.setIfInBounds 256 (.slice (some ⟨w.heap.size, 0, none⟩) 0 4))) :=
  below_setRow (((Below.refl _ w).alloc (Nat.le_refl _) _).alloc (by simp) _) (Nat.le_succ _) _
end Go.Proofs.YtinpchebcnkckaaGreatDoor.PA
