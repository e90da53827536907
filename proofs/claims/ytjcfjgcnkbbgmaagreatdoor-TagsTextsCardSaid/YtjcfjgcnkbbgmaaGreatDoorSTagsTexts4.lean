/-
  Texts of the proof of TagsTexts, part 4 of 6: contracts and plain laws. Conditions: see each statement.
-/
import Derived.Test.YtjcfjgcnkbbgmaaGreatDoorSTagsTexts3
set_option linter.unusedVariables false
namespace Go.Proofs.YtjcfjgcnkbbgmaaGreatDoor.PA
open Go.RowKit
set_option linter.unusedVariables false

set_option maxHeartbeats 4000000 in
set_option maxRecDepth 100000 in
theorem build_walk (b g gc : Nat) (w : World) (h4 : w.cell? ⟨b, 4, none⟩ = some (.slice (some ⟨g, 0, none⟩) 8 gc)) (hgc : 8 ≤ gc) (hg : PatsAt g w) (hbl : b < w.heap.size) : Calls Tryz.prog 65 #[.pointer (some ⟨b, 0, none⟩)] w fun e w' => ∃ c t, e = .returned (.iface 127 (.pointer (some ⟨c, 0, none⟩))) ∧ Bld w.heap.size c t 4 w' ∧ Below w.heap.size w w' := by
  have hgl := hg.1
  have hcells := hg.2
  have p0 : w.cell? ⟨g, 0, none⟩ = some (.string ⟨#[38]⟩) := hcells 0 (by decide)
  have p1 : w.cell? ⟨g, 1, none⟩ = some (.string ⟨#[38, 97, 109, 112, 59]⟩) := hcells 1 (by decide)
  have p2 : w.cell? ⟨g, 2, none⟩ = some (.string ⟨#[60]⟩) := hcells 2 (by decide)
  have p3 : w.cell? ⟨g, 3, none⟩ = some (.string ⟨#[38, 108, 116, 59]⟩) := hcells 3 (by decide)
  have p4 : w.cell? ⟨g, 4, none⟩ = some (.string ⟨#[62]⟩) := hcells 4 (by decide)
  have p5 : w.cell? ⟨g, 5, none⟩ = some (.string ⟨#[38, 103, 116, 59]⟩) := hcells 5 (by decide)
  have p6 : w.cell? ⟨g, 6, none⟩ = some (.string ⟨#[34]⟩) := hcells 6 (by decide)
  have p7 : w.cell? ⟨g, 7, none⟩ = some (.string ⟨#[38, 113, 117, 111, 116, 59]⟩) := hcells 7 (by decide)
  obtain ⟨mc, hmc, hm⟩ : ∃ mc : Array Value, mc.size = 4 ∧ (Instr.makeSlice 37 (.int .i64 0) (.int .i64 4)).run Tryz.prog w = .ok (.slice (some ⟨w.heap.size, 0, none⟩) 0 4) (w.alloc (.cells mc 9)) := by
    obtain ⟨i0, hi, hz0, hz1, hz2⟩ := info_parts (show (Tryz.prog.info? 9).map (fun i => (i.zero, i.size, i.bytes)) = some (some (.string ByteArray.empty), 1, 16) by kernel_rfl)
    exact ⟨_, by rw [size_madeCells, hz1]; rfl, run_make (P := Tryz.prog) w 37 9 i0 (.string ByteArray.empty) Tryz.underlying37 hi hz0 .i64 .i64 0 4 (by decide) (by decide) (by rw [hz2]; decide) (by decide)⟩
  have HC := hid0 hcells
  clear hg hcells
  go_enter Tryz.func65, Tryz.ntmps65
  go_wp2
  go_loop [4, 5] (fun v4 v5 => ∃ k : Nat, k ≤ 4 ∧ v5 = .int .i64 ((2 * k : Nat) : Int) ∧ v4 = .bool (decide (k = 0))) (fun _ v5 => 8 - (intOf v5).toNat)
  case atStart => exact ⟨0, by decide, rfl, rfl⟩
  case round =>
    obtain ⟨k, hk, rfl, rfl⟩ := hrel
    rcases (by omega : k = 0 ∨ k = 1 ∨ k = 2 ∨ k = 3 ∨ k = 4) with rfl | rfl | rfl | rfl | rfl
    · go_wp2
      go_round
      case rel => exact ⟨1, by decide, rfl, rfl⟩
      case measure => decide
    · go_wp2
      go_round
      case rel => exact ⟨2, by decide, rfl, rfl⟩
      case measure => decide
    · go_wp2
      go_round
      case rel => exact ⟨3, by decide, rfl, rfl⟩
      case measure => decide
    · go_wp2
      go_round
      case rel => exact ⟨4, by decide, rfl, rfl⟩
      case measure => decide
    · go_wp2_with (first | (refine met_build (built96 _) rfl rfl rfl ?_) | (refine met_store96 rfl rfl rfl rfl ?_))
      go_loopw [12] (fun v12 wr => ∃ (k : Nat) (i : Int), k ≤ 4 ∧ i = 6 - 2 * (k : Int) ∧ v12 = .int .i64 i ∧ Hid (Bld w.heap.size (w.heap.size + 1) w.heap.size k wr) ∧ Hid (Below w.heap.size w wr)) (fun v12 _ => (intOf v12 + 2).toNat)
      case atStart => exact ⟨0, 6, by decide, by decide, rfl, bld0 w mc hmc, hid0 (below0 w mc)⟩
      case round =>
        obtain ⟨k, i, hk, hi, rfl, HD, HB⟩ := hrel
        obtain ⟨tc, ht1, ht2, ht3⟩ := HD.out.row
        obtain ⟨cc, hc1, hc2, hc3, hc4, hc5⟩ := HD.out.ary
        have hct : w.heap.size + 1 ≠ w.heap.size := by omega
        have hlc := HD.out.hc
        have cellc : ∀ j v, cc[j]? = some v → wr.cell? ⟨w.heap.size + 1, j, none⟩ = some v := fun j v h => by rw [cell_of_row wr _ j cc _ _ hc1]; exact h
        have frc : ∀ j, wr.frozen? ⟨w.heap.size + 1, j, none⟩ = false := fun j => by simp [World.frozen?, hc1]
        have c256 := cellc 256 _ hc3
        have pp : ∀ j v, w.cell? ⟨g, j, none⟩ = some v → wr.cell? ⟨g, j, none⟩ = some v := fun j v h => by rw [HB.out.cell (by exact hgl)]; exact h
        rcases (by omega : k = 0 ∨ k = 1 ∨ k = 2 ∨ k = 3 ∨ k = 4) with rfl | rfl | rfl | rfl | rfl
        · obtain rfl : i = 6 := by omega
          have q6 := pp _ _ p6
          have q7 := pp _ _ p7
          have c34 := cellc 34 _ (hc5 34 (by decide) (by decide))
          have hnil := eql_nil none 0 0
          have hx : (({ data := #[34] } : ByteArray)[0]'(by decide)).toNat = 34 := rfl
          have kc : (convert 41 9 (.slice (some ⟨wr.heap.size, 0, none⟩) 1 1)).run Tryz.prog (wr.alloc (.cells #[.int .u8 34] 5)) = .ok (.string ⟨#[34]⟩) (wr.alloc (.cells #[.int .u8 34] 5)) := run_convert_bytes_back (P := Tryz.prog) (wr.alloc (.cells #[.int .u8 34] 5)) 41 9 5 ⟨wr.heap.size, 0, none⟩ 1 [34] Tryz.underlying41 Tryz.underlying5 Tryz.underlying9 (by
            intro j hj
            obtain rfl : j = 0 := by simp at hj; omega
            simp [Addr.add])
          have happ := wA_run (x := 34) (S := ⟨#[34]⟩) ht1 ht2 (show 0 < 4 by decide)
          have a256 : (wA wr w.heap.size 0 tc 34 ⟨#[34]⟩).cell? ⟨w.heap.size + 1, 256, none⟩ = some (.slice (some ⟨w.heap.size, 0, none⟩) 0 4) := by rw [World.cell?_of_block (wA_old hlc hct)]; exact c256
          have afr : (wA wr w.heap.size 0 tc 34 ⟨#[34]⟩).frozen? ⟨w.heap.size + 1, 256, none⟩ = false := by rw [World.frozen?_of_block (wA_old hlc hct)]; exact frc 256
          have kb := Lib.run_convert_string_bytes (P := Tryz.prog) (wB wr w.heap.size 0 tc 34 ⟨#[34]⟩ (w.heap.size + 1)) 9 41 5 ⟨#[38, 113, 117, 111, 116, 59]⟩ Tryz.underlying9 Tryz.underlying41 Tryz.underlying5
          obtain ⟨cap, hcap⟩ : ∃ cap, grownCap (wB wr w.heap.size 0 tc 34 ⟨#[34]⟩ (w.heap.size + 1)) (⟨#[38, 113, 117, 111, 116, 59]⟩ : ByteArray).size 0 5 = cap := ⟨_, rfl⟩
          have hcap2 : 6 ≤ cap := by rw [← hcap]; exact grownCap_ge _ _ _ _
          rw [hcap, wB_size] at kb
          have kb2 : (convert 9 41 (.string ⟨#[38, 113, 117, 111, 116, 59]⟩)).run Tryz.prog ((wA wr w.heap.size 0 tc 34 ⟨#[34]⟩).setCell ⟨w.heap.size + 1, 256, none⟩ (.slice (some ⟨w.heap.size, 0, none⟩) 1 4)) = .ok (.slice (some ⟨wr.heap.size + 2, 0, none⟩) 6 cap) (wC wr w.heap.size 0 tc 34 ⟨#[34]⟩ (w.heap.size + 1) ⟨#[38, 113, 117, 111, 116, 59]⟩) := kb
          have hC := wC_rec (k := 0) (tc := tc) (x := 34) (S := ⟨#[34]⟩) (R := ⟨#[38, 113, 117, 111, 116, 59]⟩) hc1 hct
          have d34 : (wC wr w.heap.size 0 tc 34 ⟨#[34]⟩ (w.heap.size + 1) ⟨#[38, 113, 117, 111, 116, 59]⟩).cell? ⟨w.heap.size + 1, 34, none⟩ = some (.slice none 0 0) := by rw [cell_of_row _ _ _ _ _ _ hC, Array.getElem?_setIfInBounds_ne (by decide)]; exact hc5 34 (by decide) (by decide)
          have dfr : (wC wr w.heap.size 0 tc 34 ⟨#[34]⟩ (w.heap.size + 1) ⟨#[38, 113, 117, 111, 116, 59]⟩).frozen? ⟨w.heap.size + 1, 34, none⟩ = false := by simp [World.frozen?, hC]
          have hstep := hid0 (bld_step (x := 34) (S := ⟨#[34]⟩) (R := ⟨#[38, 113, 117, 111, 116, 59]⟩) (show 0 < 4 by decide) HD.out ht1 ht2 ht3 HB.out.size hc1 hc2 hc3 hc4 hc5 rfl rfl (m := 6) (cap := cap) rfl hcap2 (n := 34) rfl)
          have hbel := hid0 (wC_below (x := 34) (S := ⟨#[34]⟩) (R := ⟨#[38, 113, 117, 111, 116, 59]⟩) (k := 0) (tc := tc) (n := 34) (v := .slice (some ⟨wr.heap.size + 2, 0, none⟩) 6 cap) HB.out (Nat.le_refl _) (Nat.le_succ w.heap.size))
          clear p0 p1 p2 p3 p4 p5 p6 p7 h4 hi ht1 ht2 ht3 hc1 hc2 hc3 hc4 hc5 pp cellc kb hcap hcap2 hC
          go_wp2_with (refine met_append (happ _) rfl rfl rfl rfl ?_)
          go_roundw
          case rel => exact ⟨1, _, by decide, rfl, rfl, hstep, hbel⟩
          case measure => decide
        · obtain rfl : i = 4 := by omega
          have q6 := pp _ _ p4
          have q7 := pp _ _ p5
          have c34 := cellc 62 _ (hc5 62 (by decide) (by decide))
          have hnil := eql_nil none 0 0
          have hx : (({ data := #[62] } : ByteArray)[0]'(by decide)).toNat = 62 := rfl
          have kc : (convert 41 9 (.slice (some ⟨wr.heap.size, 0, none⟩) 1 1)).run Tryz.prog (wr.alloc (.cells #[.int .u8 62] 5)) = .ok (.string ⟨#[62]⟩) (wr.alloc (.cells #[.int .u8 62] 5)) := run_convert_bytes_back (P := Tryz.prog) (wr.alloc (.cells #[.int .u8 62] 5)) 41 9 5 ⟨wr.heap.size, 0, none⟩ 1 [62] Tryz.underlying41 Tryz.underlying5 Tryz.underlying9 (by
            intro j hj
            obtain rfl : j = 0 := by simp at hj; omega
            simp [Addr.add])
          have happ := wA_run (x := 62) (S := ⟨#[62]⟩) ht1 ht2 (show 1 < 4 by decide)
          have a256 : (wA wr w.heap.size 1 tc 62 ⟨#[62]⟩).cell? ⟨w.heap.size + 1, 256, none⟩ = some (.slice (some ⟨w.heap.size, 0, none⟩) 1 4) := by rw [World.cell?_of_block (wA_old hlc hct)]; exact c256
          have afr : (wA wr w.heap.size 1 tc 62 ⟨#[62]⟩).frozen? ⟨w.heap.size + 1, 256, none⟩ = false := by rw [World.frozen?_of_block (wA_old hlc hct)]; exact frc 256
          have kb := Lib.run_convert_string_bytes (P := Tryz.prog) (wB wr w.heap.size 1 tc 62 ⟨#[62]⟩ (w.heap.size + 1)) 9 41 5 ⟨#[38, 103, 116, 59]⟩ Tryz.underlying9 Tryz.underlying41 Tryz.underlying5
          obtain ⟨cap, hcap⟩ : ∃ cap, grownCap (wB wr w.heap.size 1 tc 62 ⟨#[62]⟩ (w.heap.size + 1)) (⟨#[38, 103, 116, 59]⟩ : ByteArray).size 0 5 = cap := ⟨_, rfl⟩
          have hcap2 : 4 ≤ cap := by rw [← hcap]; exact grownCap_ge _ _ _ _
          rw [hcap, wB_size] at kb
          have kb2 : (convert 9 41 (.string ⟨#[38, 103, 116, 59]⟩)).run Tryz.prog ((wA wr w.heap.size 1 tc 62 ⟨#[62]⟩).setCell ⟨w.heap.size + 1, 256, none⟩ (.slice (some ⟨w.heap.size, 0, none⟩) 2 4)) = .ok (.slice (some ⟨wr.heap.size + 2, 0, none⟩) 4 cap) (wC wr w.heap.size 1 tc 62 ⟨#[62]⟩ (w.heap.size + 1) ⟨#[38, 103, 116, 59]⟩) := kb
          have hC := wC_rec (k := 1) (tc := tc) (x := 62) (S := ⟨#[62]⟩) (R := ⟨#[38, 103, 116, 59]⟩) hc1 hct
          have d34 : (wC wr w.heap.size 1 tc 62 ⟨#[62]⟩ (w.heap.size + 1) ⟨#[38, 103, 116, 59]⟩).cell? ⟨w.heap.size + 1, 62, none⟩ = some (.slice none 0 0) := by rw [cell_of_row _ _ _ _ _ _ hC, Array.getElem?_setIfInBounds_ne (by decide)]; exact hc5 62 (by decide) (by decide)
          have dfr : (wC wr w.heap.size 1 tc 62 ⟨#[62]⟩ (w.heap.size + 1) ⟨#[38, 103, 116, 59]⟩).frozen? ⟨w.heap.size + 1, 62, none⟩ = false := by simp [World.frozen?, hC]
          have hstep := hid0 (bld_step (x := 62) (S := ⟨#[62]⟩) (R := ⟨#[38, 103, 116, 59]⟩) (show 1 < 4 by decide) HD.out ht1 ht2 ht3 HB.out.size hc1 hc2 hc3 hc4 hc5 rfl rfl (m := 4) (cap := cap) rfl hcap2 (n := 62) rfl)
          have hbel := hid0 (wC_below (x := 62) (S := ⟨#[62]⟩) (R := ⟨#[38, 103, 116, 59]⟩) (k := 1) (tc := tc) (n := 62) (v := .slice (some ⟨wr.heap.size + 2, 0, none⟩) 4 cap) HB.out (Nat.le_refl _) (Nat.le_succ w.heap.size))
          clear p0 p1 p2 p3 p4 p5 p6 p7 h4 hi ht1 ht2 ht3 hc1 hc2 hc3 hc4 hc5 pp cellc kb hcap hcap2 hC
          go_wp2_with (refine met_append (happ _) rfl rfl rfl rfl ?_)
          go_roundw
          case rel => exact ⟨2, _, by decide, rfl, rfl, hstep, hbel⟩
          case measure => decide
        · obtain rfl : i = 2 := by omega
          have q6 := pp _ _ p2
          have q7 := pp _ _ p3
          have c34 := cellc 60 _ (hc5 60 (by decide) (by decide))
          have hnil := eql_nil none 0 0
          have hx : (({ data := #[60] } : ByteArray)[0]'(by decide)).toNat = 60 := rfl
          have kc : (convert 41 9 (.slice (some ⟨wr.heap.size, 0, none⟩) 1 1)).run Tryz.prog (wr.alloc (.cells #[.int .u8 60] 5)) = .ok (.string ⟨#[60]⟩) (wr.alloc (.cells #[.int .u8 60] 5)) := run_convert_bytes_back (P := Tryz.prog) (wr.alloc (.cells #[.int .u8 60] 5)) 41 9 5 ⟨wr.heap.size, 0, none⟩ 1 [60] Tryz.underlying41 Tryz.underlying5 Tryz.underlying9 (by
            intro j hj
            obtain rfl : j = 0 := by simp at hj; omega
            simp [Addr.add])
          have happ := wA_run (x := 60) (S := ⟨#[60]⟩) ht1 ht2 (show 2 < 4 by decide)
          have a256 : (wA wr w.heap.size 2 tc 60 ⟨#[60]⟩).cell? ⟨w.heap.size + 1, 256, none⟩ = some (.slice (some ⟨w.heap.size, 0, none⟩) 2 4) := by rw [World.cell?_of_block (wA_old hlc hct)]; exact c256
          have afr : (wA wr w.heap.size 2 tc 60 ⟨#[60]⟩).frozen? ⟨w.heap.size + 1, 256, none⟩ = false := by rw [World.frozen?_of_block (wA_old hlc hct)]; exact frc 256
          have kb := Lib.run_convert_string_bytes (P := Tryz.prog) (wB wr w.heap.size 2 tc 60 ⟨#[60]⟩ (w.heap.size + 1)) 9 41 5 ⟨#[38, 108, 116, 59]⟩ Tryz.underlying9 Tryz.underlying41 Tryz.underlying5
          obtain ⟨cap, hcap⟩ : ∃ cap, grownCap (wB wr w.heap.size 2 tc 60 ⟨#[60]⟩ (w.heap.size + 1)) (⟨#[38, 108, 116, 59]⟩ : ByteArray).size 0 5 = cap := ⟨_, rfl⟩
          have hcap2 : 4 ≤ cap := by rw [← hcap]; exact grownCap_ge _ _ _ _
          rw [hcap, wB_size] at kb
          have kb2 : (convert 9 41 (.string ⟨#[38, 108, 116, 59]⟩)).run Tryz.prog ((wA wr w.heap.size 2 tc 60 ⟨#[60]⟩).setCell ⟨w.heap.size + 1, 256, none⟩ (.slice (some ⟨w.heap.size, 0, none⟩) 3 4)) = .ok (.slice (some ⟨wr.heap.size + 2, 0, none⟩) 4 cap) (wC wr w.heap.size 2 tc 60 ⟨#[60]⟩ (w.heap.size + 1) ⟨#[38, 108, 116, 59]⟩) := kb
          have hC := wC_rec (k := 2) (tc := tc) (x := 60) (S := ⟨#[60]⟩) (R := ⟨#[38, 108, 116, 59]⟩) hc1 hct
          have d34 : (wC wr w.heap.size 2 tc 60 ⟨#[60]⟩ (w.heap.size + 1) ⟨#[38, 108, 116, 59]⟩).cell? ⟨w.heap.size + 1, 60, none⟩ = some (.slice none 0 0) := by rw [cell_of_row _ _ _ _ _ _ hC, Array.getElem?_setIfInBounds_ne (by decide)]; exact hc5 60 (by decide) (by decide)
          have dfr : (wC wr w.heap.size 2 tc 60 ⟨#[60]⟩ (w.heap.size + 1) ⟨#[38, 108, 116, 59]⟩).frozen? ⟨w.heap.size + 1, 60, none⟩ = false := by simp [World.frozen?, hC]
          have hstep := hid0 (bld_step (x := 60) (S := ⟨#[60]⟩) (R := ⟨#[38, 108, 116, 59]⟩) (show 2 < 4 by decide) HD.out ht1 ht2 ht3 HB.out.size hc1 hc2 hc3 hc4 hc5 rfl rfl (m := 4) (cap := cap) rfl hcap2 (n := 60) rfl)
          have hbel := hid0 (wC_below (x := 60) (S := ⟨#[60]⟩) (R := ⟨#[38, 108, 116, 59]⟩) (k := 2) (tc := tc) (n := 60) (v := .slice (some ⟨wr.heap.size + 2, 0, none⟩) 4 cap) HB.out (Nat.le_refl _) (Nat.le_succ w.heap.size))
          clear p0 p1 p2 p3 p4 p5 p6 p7 h4 hi ht1 ht2 ht3 hc1 hc2 hc3 hc4 hc5 pp cellc kb hcap hcap2 hC
          go_wp2_with (refine met_append (happ _) rfl rfl rfl rfl ?_)
          go_roundw
          case rel => exact ⟨3, _, by decide, rfl, rfl, hstep, hbel⟩
          case measure => decide
        · obtain rfl : i = 0 := by omega
          have q6 := pp _ _ p0
          have q7 := pp _ _ p1
          have c34 := cellc 38 _ (hc5 38 (by decide) (by decide))
          have hnil := eql_nil none 0 0
          have hx : (({ data := #[38] } : ByteArray)[0]'(by decide)).toNat = 38 := rfl
          have kc : (convert 41 9 (.slice (some ⟨wr.heap.size, 0, none⟩) 1 1)).run Tryz.prog (wr.alloc (.cells #[.int .u8 38] 5)) = .ok (.string ⟨#[38]⟩) (wr.alloc (.cells #[.int .u8 38] 5)) := run_convert_bytes_back (P := Tryz.prog) (wr.alloc (.cells #[.int .u8 38] 5)) 41 9 5 ⟨wr.heap.size, 0, none⟩ 1 [38] Tryz.underlying41 Tryz.underlying5 Tryz.underlying9 (by
            intro j hj
            obtain rfl : j = 0 := by simp at hj; omega
            simp [Addr.add])
          have happ := wA_run (x := 38) (S := ⟨#[38]⟩) ht1 ht2 (show 3 < 4 by decide)
          have a256 : (wA wr w.heap.size 3 tc 38 ⟨#[38]⟩).cell? ⟨w.heap.size + 1, 256, none⟩ = some (.slice (some ⟨w.heap.size, 0, none⟩) 3 4) := by rw [World.cell?_of_block (wA_old hlc hct)]; exact c256
          have afr : (wA wr w.heap.size 3 tc 38 ⟨#[38]⟩).frozen? ⟨w.heap.size + 1, 256, none⟩ = false := by rw [World.frozen?_of_block (wA_old hlc hct)]; exact frc 256
          have kb := Lib.run_convert_string_bytes (P := Tryz.prog) (wB wr w.heap.size 3 tc 38 ⟨#[38]⟩ (w.heap.size + 1)) 9 41 5 ⟨#[38, 97, 109, 112, 59]⟩ Tryz.underlying9 Tryz.underlying41 Tryz.underlying5
          obtain ⟨cap, hcap⟩ : ∃ cap, grownCap (wB wr w.heap.size 3 tc 38 ⟨#[38]⟩ (w.heap.size + 1)) (⟨#[38, 97, 109, 112, 59]⟩ : ByteArray).size 0 5 = cap := ⟨_, rfl⟩
          have hcap2 : 5 ≤ cap := by rw [← hcap]; exact grownCap_ge _ _ _ _
          rw [hcap, wB_size] at kb
          have kb2 : (convert 9 41 (.string ⟨#[38, 97, 109, 112, 59]⟩)).run Tryz.prog ((wA wr w.heap.size 3 tc 38 ⟨#[38]⟩).setCell ⟨w.heap.size + 1, 256, none⟩ (.slice (some ⟨w.heap.size, 0, none⟩) 4 4)) = .ok (.slice (some ⟨wr.heap.size + 2, 0, none⟩) 5 cap) (wC wr w.heap.size 3 tc 38 ⟨#[38]⟩ (w.heap.size + 1) ⟨#[38, 97, 109, 112, 59]⟩) := kb
          have hC := wC_rec (k := 3) (tc := tc) (x := 38) (S := ⟨#[38]⟩) (R := ⟨#[38, 97, 109, 112, 59]⟩) hc1 hct
          have d34 : (wC wr w.heap.size 3 tc 38 ⟨#[38]⟩ (w.heap.size + 1) ⟨#[38, 97, 109, 112, 59]⟩).cell? ⟨w.heap.size + 1, 38, none⟩ = some (.slice none 0 0) := by rw [cell_of_row _ _ _ _ _ _ hC, Array.getElem?_setIfInBounds_ne (by decide)]; exact hc5 38 (by decide) (by decide)
          have dfr : (wC wr w.heap.size 3 tc 38 ⟨#[38]⟩ (w.heap.size + 1) ⟨#[38, 97, 109, 112, 59]⟩).frozen? ⟨w.heap.size + 1, 38, none⟩ = false := by simp [World.frozen?, hC]
          have hstep := hid0 (bld_step (x := 38) (S := ⟨#[38]⟩) (R := ⟨#[38, 97, 109, 112, 59]⟩) (show 3 < 4 by decide) HD.out ht1 ht2 ht3 HB.out.size hc1 hc2 hc3 hc4 hc5 rfl rfl (m := 5) (cap := cap) rfl hcap2 (n := 38) rfl)
          have hbel := hid0 (wC_below (x := 38) (S := ⟨#[38]⟩) (R := ⟨#[38, 97, 109, 112, 59]⟩) (k := 3) (tc := tc) (n := 38) (v := .slice (some ⟨wr.heap.size + 2, 0, none⟩) 5 cap) HB.out (Nat.le_refl _) (Nat.le_succ w.heap.size))
          clear p0 p1 p2 p3 p4 p5 p6 p7 h4 hi ht1 ht2 ht3 hc1 hc2 hc3 hc4 hc5 pp cellc kb hcap hcap2 hC
          go_wp2_with (refine met_append (happ _) rfl rfl rfl rfl ?_)
          go_roundw
          case rel => exact ⟨4, _, by decide, rfl, rfl, hstep, hbel⟩
          case measure => decide
        · obtain rfl : i = -2 := by omega
          clear p0 p1 p2 p3 p4 p5 p6 p7 h4 hi ht1 ht2 ht3 hc1 hc2 hc3 hc4 hc5 pp cellc
          go_wp2
          go_ret
          exact ⟨_, _, rfl, HD.out, HB.out⟩
end Go.Proofs.YtjcfjgcnkbbgmaaGreatDoor.PA
