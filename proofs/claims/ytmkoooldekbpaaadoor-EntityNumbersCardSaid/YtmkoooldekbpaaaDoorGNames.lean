/-
  The contract of entity.Names. No condition.
-/
import Derived.Test.YtmkoooldekbpaaaDoorGNamed
import Derived.ChangeKeysEq
import Derived.Laws.AppendOwn
namespace Go.Proofs.YtmkoooldekbpaaaDoor.PA
open Go.RowKit Go.Proofs.YtmkoooldekbpaaaDoor.Pl Go.Proofs.YtmkoooldekbpaaaDoorW.PrintWords Go.Proofs.YtmkoooldekbpaaaDoorW.PrintLast Go.Proofs.YtmkoooldekbpaaaDoorW.PrintMore
set_option linter.unusedVariables false

theorem ex2 {xs : Array Value} {o : Nat} {a b : Value} (h1 : xs[o]? = some a) (h2 : xs[o + 1]? = some b) : xs.extract o (o + 2) = #[a, b] := by
  obtain ⟨i1, e1⟩ := Array.getElem?_eq_some_iff.1 h1
  obtain ⟨i2, e2⟩ := Array.getElem?_eq_some_iff.1 h2
  apply Array.ext
  · simp; omega
  · intro i hi hj
    have : i = 0 ∨ i = 1 := by simp at hj; omega
    rcases this with rfl | rfl
    · simpa using e1
    · simpa using e2
theorem entDesc : Tryd.prog.underlying 45 = some (.array 183 44) := by kernel_rfl
theorem entSize : Tryd.prog.cellsOf 44 = 2 := by kernel_rfl
theorem entInfo : ∃ i, Tryd.prog.info? 44 = some i := by
  cases h : Tryd.prog.info? 44 with
  | none => exact absurd (show (Tryd.prog.info? 44).isSome = true by kernel_rfl) (by rw [h]; decide)
  | some i => exact ⟨i, rfl⟩
theorem entAgg (w : World) : (isAgg 44).run Tryd.prog w = .ok true w := by kernel_rfl
theorem ent_index (k : Nat) (hk : k < 183) (w : World) : (Instr.index 45 (.agg entCells) (.int .i64 k)).run Tryd.prog w = .ok (.agg #[.string (B (enm k)), .int .i32 (enn k)]) w := by
  obtain ⟨i, hi⟩ := entInfo
  have hl : k < entL.length := by rw [entL_len]; exact hk
  have h2 := flat2 (fun e : List UInt8 × Nat => Value.string (B e.1)) (fun e => Value.int .i32 (e.2 : Int)) entL k
  rw [List.getElem?_eq_getElem hl] at h2
  have e1 : enm k = entL[k].1 := by unfold enm; rw [List.getD_eq_getElem?_getD, List.getElem?_eq_getElem hl]; rfl
  have e2 : enn k = ((entL[k].2 : Nat) : Int) := by unfold enn; rw [List.getD_eq_getElem?_getD, List.getElem?_eq_getElem hl]; rfl
  have h3 : entCells.extract (k * 2) (k * 2 + 2) = #[.string (B (enm k)), .int .i32 (enn k)] := by
    refine ex2 ?_ ?_
    · unfold entCells
      rw [List.getElem?_toArray, e1]
      exact h2.1
    · unfold entCells
      rw [List.getElem?_toArray, e2]
      exact h2.2
  have hc : (0 : Int) ≤ (k : Int) ∧ (k : Int) < 183 := by omega
  generalize hE : entCells = E at h3 ⊢
  clear hE
  simp [Instr.index, asIntOf, run_underlying entDesc, hk, part, run_sizeOf w hi, entSize, h3, go_sem]
/-- The first k names. -/
noncomputable def enP (k : Nat) : List ByteArray := (entL.take k).map fun e => B e.1
theorem enP_len (k : Nat) (hk : k ≤ 183) : (enP k).length = k := by unfold enP; rw [List.length_map, List.length_take, entL_len]; omega
theorem enP_succ (k : Nat) (hk : k < 183) : enP (k + 1) = enP k ++ [B (enm k)] := by
  have hl : k < entL.length := by rw [entL_len]; exact hk
  have e1 : enm k = entL[k].1 := by unfold enm; rw [List.getD_eq_getElem?_getD, List.getElem?_eq_getElem hl]; rfl
  unfold enP
  rw [List.take_add_one, List.getElem?_eq_getElem hl, e1, List.map_append]
  rfl
theorem infoStr : (Tryd.prog.info? 9).map (fun i => (i.zero, i.size, i.bytes)) = some (some (.string ByteArray.empty), 1, 16) := by kernel_rfl
set_option maxHeartbeats 4000000 in
set_option maxRecDepth 100000 in
theorem names_walk (w : World) : Calls Tryd.prog 15 #[] w fun e w' => ∃ v0_, e = .returned v0_ ∧ Kd.R Kd.string 9 w' w.heap.size (fun _ => True) v0_ (enP 183) ∧ Below w.heap.size w w' := by
  obtain ⟨i0, hi, hz0, hz1, hz2⟩ := info_parts infoStr
  have HT := Lib.hid (table_walk w)
  go_enter Tryd.func15, Tryd.ntmps15
  go_wp2_with fail
  refine HT.out.mono ?_
  rintro e w1 ⟨rfl, hb1⟩
  clear HT
  go_wp2
  go_loopw [1, 5] (fun v i wr => ∃ (k : Nat) (ao : Option Addr) (cv : Nat), k ≤ 183 ∧ i = .int .i64 k ∧ v = .slice ao k cv ∧ wr.ownsRow w.heap.size 9 1 v k ((enP k).map Value.string) ∧ Below w.heap.size w wr)
    (fun _ i _ => 183 - (intOf i).toNat)
  case atStart => exact ⟨0, none, 0, Nat.zero_le _, rfl, rfl, World.ownsRow_nil _ _ _ _, hb1⟩
  case round =>
    obtain ⟨k, ao, cv, hk, rfl, rfl, hown, hnx⟩ := hrel
    have hsize := hnx.size
    by_cases hlt : k < 183
    · have hix := fun w => ent_index k hlt w
      go_wp2_with (first
        | (at_builtin; refine wpList_append_own _ rfl _ _ 36 rfl w.heap.size 9 i0 (.string ByteArray.empty) 1 16 Tryd.underlying36 hi hz0 hz1 hz2 rfl (by decide) _ _ _ rfl ((hown.alloc _).alloc _) ⟨wr.heap.size + 1, 0, none⟩ 1 1 [.string (B (enm k))] rfl rfl (by simpa using cell_one_new (wr.alloc (.cells #[.string (B (enm k)), .int .i32 (enn k)] 44)) (Value.string (B (enm k))) 9) (fun x hx => by simp at hx; subst hx; rfl) (by unfold maxLen; omega) (by omega) (by simp; omega) ?_; intro v' w3 hown' hgrow3 hnil3))
      go_roundw
      case rel =>
        obtain ⟨g3, cap3, hv3⟩ : ∃ g3 cap3, v' = .slice (some ⟨g3, 0, none⟩) (k + 1) cap3 := by
          rcases hown'.2 with ⟨_, h⟩ | ⟨g3, cap3, _, h, _⟩
          · omega
          · exact ⟨g3, cap3, h⟩
        exact ⟨k + 1, some ⟨g3, 0, none⟩, cap3, by omega, by simp, hv3, by rw [enP_succ k hlt, List.map_append]; exact hown', ((hnx.alloc hsize _).alloc (by simp; omega) _).grown hgrow3 (by simp; omega) (fun q hq => (hown.lt q hq).1)⟩
      case measure => simp [intOf]; omega
    · obtain rfl : k = 183 := by omega
      go_wp2
      go_ret
      exact ⟨_, rfl, Kd.R_of_own (by rw [show (enP 183).length = 183 from enP_len _ (Nat.le_refl _)]; exact hown) (fun _ _ => trivial), hnx⟩
def entity_Names.f : Option (List ByteArray) := some (entL.map fun e => B e.1)
theorem entity_Names.calls (r : List ByteArray) (w : World) (h : entity_Names.f = some r) :
    Calls Tryd.prog 15 #[] w fun e w' => ∃ v0_, e = .returned v0_ ∧ Kd.R Kd.string 9 w' w.heap.size (fun _ => True) v0_ r ∧ Below w.heap.size w w' := by
  obtain rfl := Option.some.inj h
  have h2 := names_walk w
  rw [show enP 183 = entL.map fun e => B e.1 from by unfold enP; rw [List.take_of_length_le (by rw [entL_len]; exact Nat.le_refl _)]] at h2
  exact h2
end Go.Proofs.YtmkoooldekbpaaaDoor.PA
