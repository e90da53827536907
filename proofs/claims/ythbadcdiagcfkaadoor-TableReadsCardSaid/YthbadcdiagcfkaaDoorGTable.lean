/-
  The contract of table.row: so many cells; at most a million.
-/
import Derived.Test.YthbadcdiagcfkaaDoorPAx0
import Derived.Test.YthbadcdiagcfkaaDoorPBase
import Derived.Test.YthbadcdiagcfkaaDoorGLib
import Derived.WalkKit
import Derived.BigCall
import Derived.Laws.CopyRow
import Derived.Laws.CopyOwn
import Derived.Laws.IdiomCopy
import Derived.Laws.OwnMore
namespace Go.Proofs.YthbadcdiagcfkaaDoor.PA
open Go.RowKit Go.Proofs.YthbadcdiagcfkaaDoorW.PrintWords Go.Proofs.YthbadcdiagcfkaaDoorW.PrintLast Go.Proofs.YthbadcdiagcfkaaDoorW.PrintMore Go.Proofs.YthbadcdiagcfkaaDoor.Pl
set_option linter.unusedVariables false
theorem infoS : (Tryd.prog.info? 9).map (fun i => (i.zero, i.size, i.bytes)) = some (some (.string ByteArray.empty), 1, 16) := by kernel_rfl
theorem row_made (w : World) (n : Nat) (hn : n ≤ 1000000) : ∃ w1, (Instr.makeSlice 27 (.int .i64 (n : Int)) (.int .i64 (n : Int))).run Tryd.prog w = .ok (.slice (some ⟨w.heap.size, 0, none⟩) n n) w1 ∧
    (∃ cur, w1.heap[w.heap.size]? = some (.cells cur 9 (0, 0)) ∧ cur.toList = List.replicate n (.string ByteArray.empty)) ∧ Below w.heap.size w w1 := by
  have hi := infoS
  cases hq : Tryd.prog.info? 9 with
  | none => rw [hq] at hi; cases hi
  | some i =>
    rw [hq] at hi
    simp only [Option.map_some, Option.some.injEq, Prod.mk.injEq] at hi
    obtain ⟨w1, h1, h2, h3⟩ := run_makeSlice_full (P := Tryd.prog) (w := w) w.heap.size 27 9 i (.string ByteArray.empty) 1 Tryd.underlying27 hq hi.1 hi.2.1 .i64 .i64 n (by omega) (by rw [hi.2.2]; omega) (by unfold maxLen; omega) (Nat.le_refl _)
    refine ⟨w1, h1, ?_, (Below.refl _ w).grown h3 (Nat.le_refl _) (fun k hk => by cases hk)⟩
    obtain ⟨h4, h5⟩ := h2
    rcases h5 with ⟨e, e2⟩ | ⟨g, cap, cur, e, _, hg, _, _, hs, ht⟩
    · cases e
    · simp only [Value.slice.injEq, Option.some.injEq, Addr.mk.injEq, and_true, true_and] at e
      obtain ⟨rfl, rfl⟩ := e
      refine ⟨cur, hg, ?_⟩
      rw [List.take_of_length_le (by rw [Array.length_toList, hs]; exact Nat.le_refl _)] at ht
      rw [ht]
      simp [madeCells, Value.cells]
      apply List.ext_getElem
      · simp
      · intro j h6 h7
        simp [Nat.mod_one]
theorem row_copied (A0 : Option Addr) (c0 : Nat) (l0 : List ByteArray) (n : Nat) (w w1 : World) (hr0 : Kd.C Kd.string w A0 l0.length l0) (hb : Below w.heap.size w w1) (cur : Array Value)
    (hg : w1.heap[w.heap.size]? = some (.cells cur 9 (0, 0))) (hc : cur.toList = List.replicate n (.string ByteArray.empty)) (hn : n ≤ 1000000) :
    ∃ w2 m, (∀ ty, (Builtin.copy_ #[27, 27] ty #[.slice (some ⟨w.heap.size, 0, none⟩) n n, .slice A0 l0.length c0]).run Tryd.prog w1 = .ok (goInt m) w2) ∧
      Kd.R Kd.string 9 w2 w.heap.size (fun _ => True) (.slice (some ⟨w.heap.size, 0, none⟩) n n) (l0.take n ++ List.replicate (n - l0.length) ByteArray.empty) ∧ Below w.heap.size w w2 := by
  have hs : (Tryd.prog.info? 9).map (·.size) = some 1 := by kernel_rfl
  have hcz : cur.size = n := by rw [← Array.length_toList, hc, List.length_replicate]
  have hlen : (l0.take n ++ List.replicate (n - l0.length) ByteArray.empty).length = n := by rw [List.length_append, List.length_take, List.length_replicate]; omega
  have hR := Kd.C_below hr0 hb
  have fin : ∀ (w2 : World) (cur2 : Array Value), w2.heap[w.heap.size]? = some (.cells cur2 9 (0, 0)) → cur2.toList = (l0.take n ++ List.replicate (n - l0.length) ByteArray.empty).map Value.string →
      Kd.R Kd.string 9 w2 w.heap.size (fun _ => True) (.slice (some ⟨w.heap.size, 0, none⟩) n n) (l0.take n ++ List.replicate (n - l0.length) ByteArray.empty) := by
    intro w2 cur2 h1 h2
    have h3 : cur2.size = n := by rw [← Array.length_toList, h2, List.length_map, hlen]
    refine Kd.R_of_own ⟨by rw [Nat.mul_one]; simp only [encs, List.length_map], .inr ⟨w.heap.size, n, cur2, by rw [hlen], Nat.le_refl _, h1, by omega, by unfold maxLen; omega, by omega, ?_⟩⟩ (fun _ _ => trivial)
    rw [List.take_of_length_le (by rw [h2, List.length_map, hlen]; omega), h2]
    rfl
  by_cases h0 : Nat.min l0.length n = 0
  · refine ⟨w1, 0, fun ty => run_copy_none w1 _ _ ty 9 _ _ _ _ _ _ Tryd.underlying27 hs h0, fin w1 cur hg ?_, hb⟩
    rw [hc]
    have h1 : Nat.min l0.length n = min l0.length n := rfl
    rcases Nat.eq_zero_or_pos n with hn0 | hn0
    · subst hn0; simp
    · have : l0 = [] := List.length_eq_zero_iff.1 (by omega)
      subst this
      simp
  · have h1 : Nat.min l0.length n = min l0.length n := rfl
    have hpos : 0 < l0.length := by omega
    obtain ⟨a, rfl, _⟩ := hR.2.2 hpos
    have hcell : ∀ (j : Nat) v, ((l0.take n).map Value.string)[j]? = some v → w1.cell? (a.add j) = some v := by
      intro j v hj
      rw [List.getElem?_map, Option.map_eq_some_iff] at hj
      obtain ⟨x, hx, rfl⟩ := hj
      rw [List.getElem?_take] at hx
      split at hx
      · have hjl : j < l0.length := (List.getElem?_eq_some_iff.1 hx).1
        obtain ⟨ad, e, hh⟩ := Kd.at_string hR (j : Int) (by omega) (by omega)
        cases e
        rw [Int.toNat_natCast] at hh
        rw [hh]
        have hg2 := getD_at l0 j hjl
        rw [hg2]
        rw [List.getElem?_eq_getElem hjl] at hx
        rw [Option.some.inj hx]
      · cases hx
    have hcl : ((l0.take n).map Value.string).length = Nat.min l0.length n := by rw [List.length_map, List.length_take]; exact Nat.min_comm _ _
    have hrun := fun ty => run_copy_row (P := Tryd.prog) w1 27 27 ty 9 w.heap.size 0 n n a l0.length c0 cur 9 ((l0.take n).map Value.string) Tryd.underlying27 hs hg hcl hcell (by rw [hcl, hcz]; omega) (by intro v hv; obtain ⟨x, _, rfl⟩ := List.mem_map.1 hv; rfl)
    refine ⟨_, _, hrun, fin _ _ (setRow_heap w1 w.heap.size cur _ _ _ hg) ?_, below_setRow hb (Nat.le_refl _) _⟩
    simp only [List.take_zero, List.nil_append, Nat.zero_add, List.map_append, List.map_replicate]
    rw [hc, List.drop_replicate, List.length_map, List.length_take, show n - min n l0.length = n - l0.length by omega]
set_option maxHeartbeats 1000000 in
set_option maxRecDepth 100000 in
theorem table_row.walk (A0 : Option Addr) (c0 : Nat) (l0 : List ByteArray) (n : Nat) (w : World) (hr0 : Kd.C Kd.string w A0 l0.length l0) (hn : n ≤ 1000000) :
    Calls Tryd.prog 35 #[.slice A0 l0.length c0, .int .i64 n] w fun e w' => ∃ v0_, e = .returned v0_ ∧ Kd.R Kd.string 9 w' w.heap.size (fun _ => True) v0_ (l0.take n ++ List.replicate (n - l0.length) ByteArray.empty) ∧ Below w.heap.size w w' := by
  obtain ⟨w1, hm, ⟨cur, hg, hc⟩, hb⟩ := row_made w n hn
  obtain ⟨w2, m, hcp, hR, hb2⟩ := row_copied A0 c0 l0 n w w1 hr0 hb cur hg hc hn
  have HR := Aside0.mk hR
  have HB := Aside0.mk hb2
  clear hR hb2 hg hc hb hr0
  go_enter Tryd.func35, Tryd.ntmps35
  go_wp2
  go_ret
  exact ⟨_, rfl, HR.out, HB.out⟩
def table_row.f (l0 : List ByteArray) (a1 : Int) : Option (List ByteArray) := if 0 ≤ a1 ∧ a1 ≤ 1000000 then some (l0.take a1.toNat ++ List.replicate (a1.toNat - l0.length) ByteArray.empty) else none
theorem table_row.calls (A0 : Option Addr) (c0 : Nat) (l0 : List ByteArray) (a1 : Int) (r : List ByteArray) (w : World) (hr0 : Kd.C Kd.string w A0 l0.length l0) (hc0 : l0.length ≤ c0) (h : table_row.f l0 a1 = some r) :
    Calls Tryd.prog 35 #[.slice A0 l0.length c0, .int .i64 a1] w fun e w' => ∃ v0_, e = .returned v0_ ∧ Kd.R Kd.string 9 w' w.heap.size (fun _ => True) v0_ r ∧ Below w.heap.size w w' := by
  unfold table_row.f at h
  split at h
  · rename_i hc
    obtain rfl := Option.some.inj h
    obtain ⟨n, rfl⟩ := Int.eq_ofNat_of_zero_le hc.1
    exact table_row.walk A0 c0 l0 n w hr0 (by omega)
  · cases h
end Go.Proofs.YthbadcdiagcfkaaDoor.PA
