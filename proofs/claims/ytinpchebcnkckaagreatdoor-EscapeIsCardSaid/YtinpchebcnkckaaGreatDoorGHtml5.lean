/-
  (*strings.byteStringReplacer).Replace at the record of HTML's four signs. Condition: a text of at most 2^20 bytes.
-/
import Derived.Test.YtinpchebcnkckaaGreatDoorGHtml2
import Derived.Test.YtinpchebcnkckaaGreatDoorPHtm
import Derived.Test.YtinpchebcnkckaaGreatDoorShelf
import Derived.Test.YtinpchebcnkckaaGreatDoorWWords
import Derived.Laws.CopyRow
import Derived.Laws.MakeOwn
import Derived.Lib.Bytealg
namespace Go.Proofs.YtinpchebcnkckaaGreatDoor.PA
open Go.RowKit Go.Proofs.YtinpchebcnkckaaGreatDoor.Pl Go.Proofs.YtinpchebcnkckaaGreatDoorW.PrintWords
set_option linter.unusedVariables false

theorem neq_nil (a : Option Addr) (l c : Nat) (W : World) : (binOp .neq 27 (.slice a l c) (.slice none 0 0)).run Tryz.prog W = .ok (.bool (!a.isNone)) W := run_neq_slice_nil W 27 5 a l c Tryz.underlying27
/-- What the record holds at a byte. -/
theorem look {b0 c t : Nat} {w : World} (h : Bld b0 c t 4 w) (x : UInt8) :
    (isS x = false ∧ w.cell? ⟨c, x.toNat, none⟩ = some (.slice none 0 0)) ∨
    (isS x = true ∧ ∃ gx cap, w.cell? ⟨c, x.toNat, none⟩ = some (.slice (some ⟨gx, 0, none⟩) (esc x).length cap) ∧ (esc x).length ≤ cap ∧ gx < w.heap.size ∧ ∀ j, j < (esc x).length → w.cell? ⟨gx, j, none⟩ = some (.int .u8 ((esc x).getD j 0).toNat)) := by
  obtain ⟨cc, h1, h2, h3, h4, h5⟩ := h.ary
  have hc : ∀ j, w.cell? ⟨c, j, none⟩ = cc[j]? := fun j => cell_of_row w c j cc _ _ h1
  have hs : ∀ k, k < 4 → x = sgs.getD k 0 → esc x = rps.getD k [] ∧ isS x = true := by
    have h0 : ∀ k : Fin 4, esc (sgs.getD k.val 0) = rps.getD k.val [] ∧ isS (sgs.getD k.val 0) = true := by decide
    intro k hk e
    rw [e]
    exact h0 ⟨k, hk⟩
  by_cases hx : isS x = true
  · have : ∃ k, k < 4 ∧ x = sgs.getD k 0 := by
      unfold isS at hx
      simp only [Bool.or_eq_true, decide_eq_true_eq] at hx
      rcases hx with ((e | e) | e) | e
      · exact ⟨3, by decide, e⟩
      · exact ⟨2, by decide, e⟩
      · exact ⟨1, by decide, e⟩
      · exact ⟨0, by decide, e⟩
    obtain ⟨k, hk, e⟩ := this
    obtain ⟨v, hv, gx, cap, e1, e2, e3, e4, e5, e6, e7⟩ := h4 k hk
    rw [← e] at hv
    rw [← (hs k hk e).1] at e1 e2 e7
    exact .inr ⟨hx, gx, cap, by rw [hc, hv, e1], e2, e4, e7⟩
  · refine .inl ⟨by simpa using hx, ?_⟩
    rw [hc]
    refine h5 x.toNat x.toNat_lt (fun j hj e => hx ?_)
    have : x = sgs.getD j 0 := (UInt8.toNat_inj.1 e).symm
    exact (hs j hj this).2
theorem tos_cell {b0 c t : Nat} {w : World} (h : Bld b0 c t 4 w) (j : Nat) (hj : j < 4) : w.cell? ⟨t, j, none⟩ = some (.string ⟨#[sgs.getD j 0]⟩) := by
  obtain ⟨tc, h1, h2, h3⟩ := h.row
  rw [cell_of_row w t j tc _ _ h1]
  exact h3 j hj
theorem to_cell {b0 c t : Nat} {w : World} (h : Bld b0 c t 4 w) : w.cell? ⟨c, 256, none⟩ = some (.slice (some ⟨t, 0, none⟩) 4 4) := by
  obtain ⟨cc, h1, h2, h3, h4, h5⟩ := h.ary
  rw [cell_of_row w c 256 cc _ _ h1]
  exact h3
/-- How much longer the text gets by the first k signs; how many there are. -/
def sumK (s : List UInt8) (k : Nat) : Nat := [0, s.count 34 * 5, s.count 34 * 5 + s.count 62 * 3, s.count 34 * 5 + s.count 62 * 3 + s.count 60 * 3, s.count 34 * 5 + s.count 62 * 3 + s.count 60 * 3 + s.count 38 * 4].getD k 0
def cntK (s : List UInt8) (k : Nat) : Nat := [0, s.count 34, s.count 34 + s.count 62, s.count 34 + s.count 62 + s.count 60, s.count 34 + s.count 62 + s.count 60 + s.count 38].getD k 0
theorem cntK_le (s : List UInt8) : s.count 34 ≤ s.length ∧ s.count 62 ≤ s.length ∧ s.count 60 ≤ s.length ∧ s.count 38 ≤ s.length := ⟨List.count_le_length, List.count_le_length, List.count_le_length, List.count_le_length⟩
theorem sumK_le (s : List UInt8) (k : Nat) (hk : k ≤ 4) : sumK s k ≤ 20 * s.length := by
  obtain ⟨h1, h2, h3, h4⟩ := cntK_le s
  rcases (by omega : k = 0 ∨ k = 1 ∨ k = 2 ∨ k = 3 ∨ k = 4) with rfl | rfl | rfl | rfl | rfl
  · exact Nat.zero_le _
  · show s.count 34 * 5 ≤ _; omega
  · show s.count 34 * 5 + s.count 62 * 3 ≤ _; omega
  · show s.count 34 * 5 + s.count 62 * 3 + s.count 60 * 3 ≤ _; omega
  · show s.count 34 * 5 + s.count 62 * 3 + s.count 60 * 3 + s.count 38 * 4 ≤ _; omega
/-- The buffer, in which l stands. -/
def Buf (G N : Nat) (l : List UInt8) (W : World) : Prop := ∃ cur : Array Value, W.heap[G]? = some (.cells cur 5 (0, 0)) ∧ cur.size = N ∧ ∀ j, j < l.length → cur[j]? = some (.int .u8 (l.getD j 0).toNat)
theorem buf_one {G N : Nat} {l : List UInt8} {W : World} (h : Buf G N l W) (hl : l.length < N) (x : UInt8) : Buf G N (l ++ [x]) (W.setCell ⟨G, l.length, none⟩ (.int .u8 (x.toNat : Int))) := by
  obtain ⟨cur, h1, h2, h3⟩ := h
  refine ⟨cur.setIfInBounds l.length (.int .u8 (x.toNat : Int)), by rw [setCell_eq_setRow _ _ _ _ _ _ _ h1]; exact setRow_heap _ _ _ _ _ _ h1, by simp [h2], fun j hj => ?_⟩
  rw [List.length_append, List.length_singleton] at hj
  by_cases e : j = l.length
  · subst e
    rw [Array.getElem?_setIfInBounds_self_of_lt (by omega)]
    simp [List.getD_eq_getElem?_getD]
  · rw [Array.getElem?_setIfInBounds_ne (fun e2 => e e2.symm), h3 j (by omega)]
    simp [List.getD_eq_getElem?_getD, List.getElem?_append_left (show j < l.length by omega)]
theorem buf_many {G N : Nat} {l m : List UInt8} {W : World} {cur : Array Value} (h1 : W.heap[G]? = some (.cells cur 5 (0, 0))) (h2 : cur.size = N) (h3 : ∀ j, j < l.length → cur[j]? = some (.int .u8 (l.getD j 0).toNat)) (hl : l.length + m.length ≤ N) :
    Buf G N (l ++ m) (W.setRow G (cur.toList.take l.length ++ m.map (fun y => Value.int .u8 (y.toNat : Int)) ++ cur.toList.drop (l.length + m.length)).toArray) := by
  have hcl : cur.toList.length = N := by simpa using h2
  refine ⟨_, setRow_heap _ _ _ _ _ _ h1, by rw [List.size_toArray, List.length_append, List.length_append, List.length_take, List.length_drop, List.length_map, hcl]; omega, fun j hj => ?_⟩
  rw [List.length_append] at hj
  have hlt : (cur.toList.take l.length).length = l.length := by rw [List.length_take, hcl]; omega
  rw [List.getElem?_toArray, List.append_assoc]
  by_cases e : j < l.length
  · rw [List.getElem?_append_left (by omega), List.getElem?_take, if_pos e, Array.getElem?_toList, h3 j e]
    simp [List.getD_eq_getElem?_getD, List.getElem?_append_left e]
  · rw [List.getElem?_append_right (by omega), hlt, List.getElem?_append_left (by rw [List.length_map]; omega), List.getElem?_map]
    have hj2 : j - l.length < m.length := by omega
    simp [List.getD_eq_getElem?_getD, List.getElem?_append_right (show l.length ≤ j by omega), List.getElem?_eq_getElem hj2]
theorem Bld.drew {b0 c t k : Nat} {w : World} (h : Bld b0 c t k w) : Bld b0 c t k w.drew := by
  obtain ⟨lc, lt, ct, hc, ht, ⟨tc, r1, r2, r3⟩, ⟨cc, a1, a2, a3, a4, a5⟩⟩ := h
  exact ⟨lc, lt, ct, hc, ht, ⟨tc, r1, r2, r3⟩, ⟨cc, a1, a2, a3, a4, a5⟩⟩
set_option maxHeartbeats 8000000 in
set_option maxRecDepth 100000 in
theorem bsr_walk (b0 c t : Nat) (s : List UInt8) (hs : s.length ≤ 1048576) (w : World) (hb : Bld b0 c t 4 w) :
    Calls Tryz.prog 149 #[.pointer (some ⟨c, 0, none⟩), .string (B s)] w fun e w' => e = .returned (.string (B (htm s))) ∧ Below w.heap.size w w' := by
  have hsz : (B s).size = s.length := B_size s
  have h256 := to_cell hb
  have HB := hid0 hb
  clear hb
  by_cases h32 : 32 ≤ s.length
  · have q32 : decide ((32 : Int) ≤ (s.length : Int)) = true := decide_eq_true (by omega)
    go_enter Tryz.func149, Tryz.ntmps149
    go_wp2
    go_loopw [5, 6, 32] (fun v5 v6 v32 wr => ∃ k : Nat, k ≤ 4 ∧ v32 = .int .i64 (k : Int) ∧ v5 = .int .i64 ((s.length + sumK s k : Nat) : Int) ∧ v6 = .bool (decide (0 < cntK s k)) ∧ Hid (Bld b0 c t 4 wr) ∧ Hid (Below w.heap.size w wr)) (fun _ _ v32 _ => 4 - (intOf v32).toNat)
    case atStart => exact ⟨0, by decide, rfl, rfl, rfl, HB, hid0 (Below.refl _ _)⟩
    case round =>
      obtain ⟨k, hk, rfl, rfl, rfl, HD, HBl⟩ := hrel
      rcases (by omega : k = 0 ∨ k = 1 ∨ k = 2 ∨ k = 3 ∨ k = 4) with rfl | rfl | rfl | rfl | rfl
      · have hcnt := hid0 (Tryz.strings_Count_one (B s) 34)
        have hx : (({ data := #[34] } : ByteArray)[0]'(by decide)).toNat = 34 := rfl
        have tk : wr.cell? ⟨t, 0, none⟩ = some (.string ⟨#[34]⟩) := tos_cell HD.out 0 (by decide)
        obtain ⟨a, ha⟩ : ∃ a, s.count 34 = a := ⟨_, rfl⟩
        have hal : a ≤ s.length := by rw [← ha]; exact List.count_le_length
        have e0 : Lib.countByte (B s).data.toList 34 = a := by rw [B_data]; exact ha
        rw [e0] at hcnt
        obtain ⟨gx, cap, hL⟩ : ∃ gx cap, wr.cell? ⟨c, 34, none⟩ = some (.slice (some ⟨gx, 0, none⟩) 6 cap) := by
          rcases look HD.out 34 with ⟨h, _⟩ | ⟨_, gx, cap, h, _⟩
          · cases h
          · exact ⟨gx, cap, h⟩
        have hS : sumK s 1 = sumK s 0 + a * 5 := by rw [← ha]; first | rfl | exact (Nat.zero_add _).symm
        have hZ : cntK s 1 = cntK s 0 + a := by rw [← ha]; first | rfl | exact (Nat.zero_add _).symm
        have hSb := sumK_le s 0 (by decide)
        have HS := hid0 hS
        have HZ := hid0 hZ
        clear hS hZ ha e0
        generalize sumK s 0 = S0 at *
        generalize cntK s 0 = Z0 at *
        by_cases h0 : a = 0
        · have q : ((a : Int) != 0) = false := by rw [h0]; rfl
          go_wp2_with (go_at_call 151; refine (hcnt.out wr).mono ?_; rintro e w' ⟨rfl, rfl⟩)
          go_roundw
          case rel => exact ⟨1, by decide, rfl, by rw [HS.out, h0]; go_num, by rw [HZ.out, h0]; rfl, HD, HBl⟩
          case measure => decide
        · have q : ((a : Int) != 0) = true := bne_iff_ne.2 (by omega)
          have hw : wrap64 ((s.length : Int) + (S0 : Int) + (a : Int) * 5) = ((s.length + (S0 + a * 5) : Nat) : Int) := by rw [w64 (by omega) (by omega)]; omega
          go_wp2_with (go_at_call 151; refine (hcnt.out wr).mono ?_; rintro e w' ⟨rfl, rfl⟩)
          go_region
          go_wp2
          go_roundw
          case rel => exact ⟨1, by decide, rfl, congrArg (Value.int .i64) (by rw [HS.out]; omega), congrArg Value.bool (by rw [HZ.out]; exact (decide_eq_true (by omega)).symm), hid0 HD.out.drew, hid0 HBl.out.drew⟩
          case measure => decide
      · have hcnt := hid0 (Tryz.strings_Count_one (B s) 62)
        have hx : (({ data := #[62] } : ByteArray)[0]'(by decide)).toNat = 62 := rfl
        have tk : wr.cell? ⟨t, 1, none⟩ = some (.string ⟨#[62]⟩) := tos_cell HD.out 1 (by decide)
        obtain ⟨a, ha⟩ : ∃ a, s.count 62 = a := ⟨_, rfl⟩
        have hal : a ≤ s.length := by rw [← ha]; exact List.count_le_length
        have e0 : Lib.countByte (B s).data.toList 62 = a := by rw [B_data]; exact ha
        rw [e0] at hcnt
        obtain ⟨gx, cap, hL⟩ : ∃ gx cap, wr.cell? ⟨c, 62, none⟩ = some (.slice (some ⟨gx, 0, none⟩) 4 cap) := by
          rcases look HD.out 62 with ⟨h, _⟩ | ⟨_, gx, cap, h, _⟩
          · cases h
          · exact ⟨gx, cap, h⟩
        have hS : sumK s 2 = sumK s 1 + a * 3 := by rw [← ha]; first | rfl | exact (Nat.zero_add _).symm
        have hZ : cntK s 2 = cntK s 1 + a := by rw [← ha]; first | rfl | exact (Nat.zero_add _).symm
        have hSb := sumK_le s 1 (by decide)
        have HS := hid0 hS
        have HZ := hid0 hZ
        clear hS hZ ha e0
        generalize sumK s 1 = S0 at *
        generalize cntK s 1 = Z0 at *
        by_cases h0 : a = 0
        · have q : ((a : Int) != 0) = false := by rw [h0]; rfl
          go_wp2_with (go_at_call 151; refine (hcnt.out wr).mono ?_; rintro e w' ⟨rfl, rfl⟩)
          go_roundw
          case rel => exact ⟨2, by decide, rfl, by rw [HS.out, h0]; go_num, by rw [HZ.out, h0]; rfl, HD, HBl⟩
          case measure => decide
        · have q : ((a : Int) != 0) = true := bne_iff_ne.2 (by omega)
          have hw : wrap64 ((s.length : Int) + (S0 : Int) + (a : Int) * 3) = ((s.length + (S0 + a * 3) : Nat) : Int) := by rw [w64 (by omega) (by omega)]; omega
          go_wp2_with (go_at_call 151; refine (hcnt.out wr).mono ?_; rintro e w' ⟨rfl, rfl⟩)
          go_region
          go_wp2
          go_roundw
          case rel => exact ⟨2, by decide, rfl, congrArg (Value.int .i64) (by rw [HS.out]; omega), congrArg Value.bool (by rw [HZ.out]; exact (decide_eq_true (by omega)).symm), hid0 HD.out.drew, hid0 HBl.out.drew⟩
          case measure => decide
      · have hcnt := hid0 (Tryz.strings_Count_one (B s) 60)
        have hx : (({ data := #[60] } : ByteArray)[0]'(by decide)).toNat = 60 := rfl
        have tk : wr.cell? ⟨t, 2, none⟩ = some (.string ⟨#[60]⟩) := tos_cell HD.out 2 (by decide)
        obtain ⟨a, ha⟩ : ∃ a, s.count 60 = a := ⟨_, rfl⟩
        have hal : a ≤ s.length := by rw [← ha]; exact List.count_le_length
        have e0 : Lib.countByte (B s).data.toList 60 = a := by rw [B_data]; exact ha
        rw [e0] at hcnt
        obtain ⟨gx, cap, hL⟩ : ∃ gx cap, wr.cell? ⟨c, 60, none⟩ = some (.slice (some ⟨gx, 0, none⟩) 4 cap) := by
          rcases look HD.out 60 with ⟨h, _⟩ | ⟨_, gx, cap, h, _⟩
          · cases h
          · exact ⟨gx, cap, h⟩
        have hS : sumK s 3 = sumK s 2 + a * 3 := by rw [← ha]; first | rfl | exact (Nat.zero_add _).symm
        have hZ : cntK s 3 = cntK s 2 + a := by rw [← ha]; first | rfl | exact (Nat.zero_add _).symm
        have hSb := sumK_le s 2 (by decide)
        have HS := hid0 hS
        have HZ := hid0 hZ
        clear hS hZ ha e0
        generalize sumK s 2 = S0 at *
        generalize cntK s 2 = Z0 at *
        by_cases h0 : a = 0
        · have q : ((a : Int) != 0) = false := by rw [h0]; rfl
          go_wp2_with (go_at_call 151; refine (hcnt.out wr).mono ?_; rintro e w' ⟨rfl, rfl⟩)
          go_roundw
          case rel => exact ⟨3, by decide, rfl, by rw [HS.out, h0]; go_num, by rw [HZ.out, h0]; rfl, HD, HBl⟩
          case measure => decide
        · have q : ((a : Int) != 0) = true := bne_iff_ne.2 (by omega)
          have hw : wrap64 ((s.length : Int) + (S0 : Int) + (a : Int) * 3) = ((s.length + (S0 + a * 3) : Nat) : Int) := by rw [w64 (by omega) (by omega)]; omega
          go_wp2_with (go_at_call 151; refine (hcnt.out wr).mono ?_; rintro e w' ⟨rfl, rfl⟩)
          go_region
          go_wp2
          go_roundw
          case rel => exact ⟨3, by decide, rfl, congrArg (Value.int .i64) (by rw [HS.out]; omega), congrArg Value.bool (by rw [HZ.out]; exact (decide_eq_true (by omega)).symm), hid0 HD.out.drew, hid0 HBl.out.drew⟩
          case measure => decide
      · have hcnt := hid0 (Tryz.strings_Count_one (B s) 38)
        have hx : (({ data := #[38] } : ByteArray)[0]'(by decide)).toNat = 38 := rfl
        have tk : wr.cell? ⟨t, 3, none⟩ = some (.string ⟨#[38]⟩) := tos_cell HD.out 3 (by decide)
        obtain ⟨a, ha⟩ : ∃ a, s.count 38 = a := ⟨_, rfl⟩
        have hal : a ≤ s.length := by rw [← ha]; exact List.count_le_length
        have e0 : Lib.countByte (B s).data.toList 38 = a := by rw [B_data]; exact ha
        rw [e0] at hcnt
        obtain ⟨gx, cap, hL⟩ : ∃ gx cap, wr.cell? ⟨c, 38, none⟩ = some (.slice (some ⟨gx, 0, none⟩) 5 cap) := by
          rcases look HD.out 38 with ⟨h, _⟩ | ⟨_, gx, cap, h, _⟩
          · cases h
          · exact ⟨gx, cap, h⟩
        have hS : sumK s 4 = sumK s 3 + a * 4 := by rw [← ha]; first | rfl | exact (Nat.zero_add _).symm
        have hZ : cntK s 4 = cntK s 3 + a := by rw [← ha]; first | rfl | exact (Nat.zero_add _).symm
        have hSb := sumK_le s 3 (by decide)
        have HS := hid0 hS
        have HZ := hid0 hZ
        clear hS hZ ha e0
        generalize sumK s 3 = S0 at *
        generalize cntK s 3 = Z0 at *
        by_cases h0 : a = 0
        · have q : ((a : Int) != 0) = false := by rw [h0]; rfl
          go_wp2_with (go_at_call 151; refine (hcnt.out wr).mono ?_; rintro e w' ⟨rfl, rfl⟩)
          go_roundw
          case rel => exact ⟨4, by decide, rfl, by rw [HS.out, h0]; go_num, by rw [HZ.out, h0]; rfl, HD, HBl⟩
          case measure => decide
        · have q : ((a : Int) != 0) = true := bne_iff_ne.2 (by omega)
          have hw : wrap64 ((s.length : Int) + (S0 : Int) + (a : Int) * 4) = ((s.length + (S0 + a * 4) : Nat) : Int) := by rw [w64 (by omega) (by omega)]; omega
          go_wp2_with (go_at_call 151; refine (hcnt.out wr).mono ?_; rintro e w' ⟨rfl, rfl⟩)
          go_region
          go_wp2
          go_roundw
          case rel => exact ⟨4, by decide, rfl, congrArg (Value.int .i64) (by rw [HS.out]; omega), congrArg Value.bool (by rw [HZ.out]; exact (decide_eq_true (by omega)).symm), hid0 HD.out.drew, hid0 HBl.out.drew⟩
          case measure => decide
      · have e5 : s.length + sumK s 4 = (htm s).length := by rw [htm_count]; show _ + (s.count 34 * 5 + s.count 62 * 3 + s.count 60 * 3 + s.count 38 * 4) = _; omega
        have e6 : decide (0 < cntK s 4) = s.any isS := (any_count s).symm
        rw [e5, e6]
        clear e5 e6 hk
        obtain ⟨wo, hwo⟩ : ∃ wo, wo = wr := ⟨wr, rfl⟩
        subst hwo
        cases hA : s.any isS with
        | false =>
          have hfin := htm_no s hA
          clear hA
          go_wp2
          go_ret
          exact ⟨congrArg (fun z => Ending.returned (.string (B z))) hfin.symm, HBl.out⟩
        | true =>
          obtain ⟨N, hN⟩ : ∃ N, (htm s).length = N := ⟨_, rfl⟩
          have hNb := htm_len s
          rw [hN] at hNb ⊢
          have hm : (Instr.makeSlice 27 (.int .i64 (N : Int)) (.int .i64 (N : Int))).run Tryz.prog wo = .ok (.slice (some ⟨wo.heap.size, 0, none⟩) N N) (wo.alloc (.cells (madeCells #[.int .u8 0] N) 5)) := by
            obtain ⟨i0, hi, hz0, hz1, hz2⟩ := info_parts (show (Tryz.prog.info? 5).map (fun i => (i.zero, i.size, i.bytes)) = some (some (.int .u8 0), 1, 1) by kernel_rfl)
            have h := run_make (P := Tryz.prog) wo 27 5 i0 (.int .u8 0) Tryz.underlying27 hi hz0 .i64 .i64 (N : Int) (N : Int) (by omega) (Int.le_refl _) (by rw [hz2]; omega) (by omega)
            rw [hz1, Int.toNat_natCast, Nat.mul_one] at h
            exact h
          have hbuf0 : Buf wo.heap.size N (htm (s.take 0)) (wo.alloc (.cells (madeCells #[.int .u8 0] N) 5)) := ⟨_, heap_alloc_new _ _, size_madeCells _ _, fun j hj => by simp [htm] at hj⟩
          have HB0 := hid0 hbuf0
          have hwr := HBl.out.size
          clear hbuf0
          go_wp2
          go_loopw [13, 14] (fun v13 v14 wr => ∃ k : Nat, k ≤ s.length ∧ v14 = .int .i64 (k : Int) ∧ v13 = .int .i64 ((htm (s.take k)).length : Int) ∧ Hid (Buf wo.heap.size N (htm (s.take k)) wr) ∧ Hid (Below wo.heap.size wo wr)) (fun _ v14 _ => s.length - (intOf v14).toNat)
          case atStart => exact ⟨0, Nat.zero_le _, rfl, rfl, HB0, hid0 ((Below.refl _ wo).alloc (Nat.le_refl _) _)⟩
          case round =>
            obtain ⟨k, hk, rfl, rfl, HU, HW⟩ := hrel
            clear HB0 hm
            by_cases hkn : k < s.length
            · have hks : k < (B s).size := by omega
              have hi : (B s)[k]'hks = s[k] := List.getElem_toArray hkn
              have hlt := htm_take_lt s k
              rw [hN] at hlt
              obtain ⟨x, hx⟩ : ∃ x, s[k] = x := ⟨_, rfl⟩
              rw [hx] at hi
              have htk : htm (s.take (k + 1)) = htm (s.take k) ++ esc x := by rw [← hx]; exact htm_take s k hkn
              have hel := esc_len x
              obtain ⟨l, hl⟩ : ∃ l, htm (s.take k) = l := ⟨_, rfl⟩
              have hlt2 := htm_take_lt s (k + 1)
              rw [hN, htk, List.length_append] at hlt2
              rw [hl] at htk hlt hlt2 HU ⊢
              obtain ⟨cur, hu1, hu2, hu3⟩ := HU.out
              have hdc := HD.out.hc
              have hxl := x.toNat_lt
              have fG : ∀ j, wr.frozen? ⟨wo.heap.size, j, none⟩ = false := fun j => by simp [World.frozen?, hu1]
              have fGl := fG l.length
              rcases look HD.out x with ⟨hxn, hcell⟩ | ⟨hxs, gx, cap, hcell, hcap, hgx, hby⟩
              · have hc1 : wr.cell? ⟨c, x.toNat, none⟩ = some (.slice none 0 0) := by rw [HW.out.cell (by exact hdc)]; exact hcell
                have hq := neq_nil none 0 0
                have hG : ∃ v, wr.cell? ⟨wo.heap.size, l.length, none⟩ = some v := ⟨cur[l.length]'(by omega), by rw [cell_of_row wr _ _ cur _ _ hu1]; exact Array.getElem?_eq_getElem (by omega)⟩
                obtain ⟨v, hG⟩ := hG
                have hstep := hid0 (buf_one HU.out (show l.length < N by omega) x)
                rw [esc_no x hxn] at htk hel
                rw [← htk] at hstep
                have hlen : (htm (s.take (k + 1))).length = l.length + 1 := by rw [htk, List.length_append]; rfl
                have HLn := hid0 hlen
                have HBel := hid0 (HW.out.setCell (p := ⟨wo.heap.size, l.length, none⟩) (Nat.le_refl _) (.int .u8 (x.toNat : Int)))
                have hll : l.length < N := by omega
                clear hu1 hu3 htk hlen hcell hlt hlt2 hx hA
                go_wp2
                go_roundw
                case rel => exact ⟨k + 1, hkn, by go_num, by rw [HLn.out]; go_num, hstep, HBel⟩
                case measure => simp [intOf]; omega
              · have hc1 : wr.cell? ⟨c, x.toNat, none⟩ = some (.slice (some ⟨gx, 0, none⟩) (esc x).length cap) := by rw [HW.out.cell (by exact hdc)]; exact hcell
                have hq := neq_nil (some ⟨gx, 0, none⟩) (esc x).length cap
                have hll : l.length < N := by omega
                obtain ⟨i0, hi0, hz0, hz1, hz2⟩ := info_parts (show (Tryz.prog.info? 5).map (fun i => (i.zero, i.size, i.bytes)) = some (some (.int .u8 0), 1, 1) by kernel_rfl)
                have hcut := cut_from (P := Tryz.prog) 27 5 .i64 Tryz.underlying27 hi0 1 hz1 (some ⟨wo.heap.size, 0, none⟩) N N (l.length : Int) (by omega) (by omega)
                have hadd : ∀ g j : Nat, (⟨g, 0, none⟩ : Addr).add j = ⟨g, j, none⟩ := by
                  intro g j
                  unfold Addr.add
                  split
                  · rename_i e; subst e; rfl
                  · simp
                rw [Int.toNat_natCast, if_neg (by omega), Nat.mul_one, Option.map_some, hadd] at hcut
                have hml : ((esc x).map (fun y => Value.int .u8 (y.toNat : Int))).length = (esc x).length := List.length_map _
                have hcp := fun ty => run_copy_row (P := Tryz.prog) wr.drew 27 27 ty 5 wo.heap.size l.length (N - l.length) (N - l.length) ⟨gx, 0, none⟩ (esc x).length cap cur 5 ((esc x).map (fun y => Value.int .u8 (y.toNat : Int))) Tryz.underlying27 (by rw [hi0]; simp [hz1]) hu1 (by rw [hml]; exact (Nat.min_eq_left (by omega)).symm) (by
                  intro j v hj
                  have hj2 : j < (esc x).length := by
                    have := (List.getElem?_eq_some_iff.1 hj).1
                    rwa [hml] at this
                  rw [hadd, World.cell?_drew, HW.out.cell (by exact hgx), hby j hj2, ← hj, List.getElem?_map, List.getD_eq_getElem?_getD, List.getElem?_eq_getElem hj2]
                  rfl) (by rw [hml]; omega) (by
                  intro v hv
                  obtain ⟨y, _, rfl⟩ := List.mem_map.1 hv
                  rfl)
                rw [hml] at hcp
                have hstep := hid0 (buf_many (W := wr.drew) hu1 hu2 hu3 (show l.length + (esc x).length ≤ N by omega))
                rw [← htk] at hstep
                have HLn := hid0 (show (htm (s.take (k + 1))).length = l.length + (esc x).length by rw [htk, List.length_append])
                have HBel := hid0 (below_setRow (HW.out.drew) (Nat.le_refl _) (cur.toList.take l.length ++ (esc x).map (fun y => Value.int .u8 (y.toNat : Int)) ++ cur.toList.drop (l.length + (esc x).length)).toArray)
                clear hu1 hu3 htk hcell hlt hx hA hby hadd hi0 hz0 hz1 hz2 hml fG fGl
                generalize (cur.toList.take l.length ++ (esc x).map (fun y => Value.int .u8 (y.toNat : Int)) ++ cur.toList.drop (l.length + (esc x).length)).toArray = nc at hcp hstep HBel
                generalize (esc x).length = M at *
                go_wp2
                go_region
                go_wp2
                go_roundw
                case rel => exact ⟨k + 1, hkn, by go_num, by rw [HLn.out]; go_num, hstep, HBel⟩
                case measure => simp [intOf]; omega
            · obtain rfl : k = s.length := by omega
              obtain ⟨cur, hu1, hu2, hu3⟩ := HU.out
              rw [List.take_length] at hu3
              have kc : (convert 27 9 (.slice (some ⟨wo.heap.size, 0, none⟩) N N)).run Tryz.prog wr = .ok (.string ⟨(htm s).toArray⟩) wr := by
                rw [← hN]
                refine run_convert_bytes_back (P := Tryz.prog) wr 27 9 5 ⟨wo.heap.size, 0, none⟩ _ (htm s) Tryz.underlying27 Tryz.underlying5 Tryz.underlying9 (fun j hj => ?_)
                have hadd : (⟨wo.heap.size, 0, none⟩ : Addr).add j = ⟨wo.heap.size, j, none⟩ := by
                  unfold Addr.add
                  split
                  · rename_i e; subst e; rfl
                  · simp
                rw [hadd, cell_of_row wr _ _ cur _ _ hu1, hu3 j hj, List.getD_eq_getElem?_getD, List.getElem?_eq_getElem hj]
                rfl
              clear hu1 hu3 hA
              go_wp2
              go_ret
              exact ⟨rfl, HBl.out.trans (HW.out.mono hwr)⟩
  · have q32 : decide ((32 : Int) ≤ (s.length : Int)) = false := decide_eq_false (by omega)
    go_enter Tryz.func149, Tryz.ntmps149
    go_wp2
    go_loopw [5, 6, 10] (fun v5 v6 v10 wr => ∃ k : Nat, k ≤ s.length ∧ v10 = .int .i64 (k : Int) ∧ v5 = .int .i64 (((htm (s.take k)).length + (s.length - k) : Nat) : Int) ∧ v6 = .bool ((s.take k).any isS) ∧ Hid (Bld b0 c t 4 wr) ∧ Hid (Below w.heap.size w wr)) (fun _ _ v10 _ => s.length - (intOf v10).toNat)
    case atStart => exact ⟨0, Nat.zero_le _, rfl, congrArg (Value.int .i64) (by simp [htm]), rfl, HB, hid0 (Below.refl _ _)⟩
    case round =>
      obtain ⟨k, hk, rfl, rfl, rfl, HD, HBl⟩ := hrel
      by_cases hkn : k < s.length
      · have hks : k < (B s).size := by omega
        have hi : (B s)[k]'hks = s[k] := List.getElem_toArray hkn
        obtain ⟨x, hx⟩ : ∃ x, s[k] = x := ⟨_, rfl⟩
        have htk : htm (s.take (k + 1)) = htm (s.take k) ++ esc x := by rw [← hx]; exact htm_take s k hkn
        have hany : (s.take (k + 1)).any isS = ((s.take k).any isS || isS x) := by rw [List.take_succ_eq_append_getElem hkn, List.any_append, ← hx]; simp; rfl
        rw [hx] at hi
        have hlen : (htm (s.take (k + 1))).length + (s.length - (k + 1)) = (htm (s.take k)).length + (s.length - k) + ((esc x).length - 1) := by
          have := esc_len x
          rw [htk, List.length_append]
          omega
        have hbd := (htm_len (s.take k)).2
        rw [List.length_take] at hbd
        have hxl := x.toNat_lt
        have HLn := hid0 hlen
        have HAn := hid0 hany
        have hel := esc_len x
        obtain ⟨N1, hN1⟩ : ∃ N1, (htm (s.take k)).length + (s.length - k) = N1 := ⟨_, rfl⟩
        have hNb : N1 ≤ 7 * s.length := by omega
        rw [hN1] at HLn ⊢
        clear htk hany hlen hx hN1
        rcases look HD.out x with ⟨hxn, hcell⟩ | ⟨hxs, gx, cap, hcell, hcap, hgx, hby⟩
        · have hq := neq_nil none 0 0
          have e1 : (esc x).length = 1 := by rw [esc_no x hxn]; rfl
          go_wp2
          go_roundw
          case rel => exact ⟨k + 1, hkn, by go_num, by rw [HLn.out, e1]; rfl, by rw [HAn.out, hxn, Bool.or_false], HD, HBl⟩
          case measure => simp [intOf]; omega
        · have hq := neq_nil (some ⟨gx, 0, none⟩) (esc x).length cap
          obtain ⟨M, hM⟩ : ∃ M, (esc x).length = M := ⟨_, rfl⟩
          rw [hM] at hq hcell hel HLn
          clear hM hby hcap
          go_wp2
          go_roundw
          case rel => exact ⟨k + 1, hkn, by go_num, by rw [HLn.out]; first | go_num | exact congrArg (Value.int .i64) (by omega), by rw [HAn.out, hxs, Bool.or_true], HD, HBl⟩
          case measure => simp [intOf]; omega
      · obtain rfl : k = s.length := by omega
        have e5 : (htm (s.take s.length)).length + (s.length - s.length) = (htm s).length := by rw [List.take_length]; omega
        rw [e5, List.take_length]
        clear e5 hk hkn
        obtain ⟨wo, hwo⟩ : ∃ wo, wo = wr := ⟨wr, rfl⟩
        subst hwo
        cases hA : s.any isS with
        | false =>
          have hfin := htm_no s hA
          clear hA
          go_wp2
          go_ret
          exact ⟨congrArg (fun z => Ending.returned (.string (B z))) hfin.symm, HBl.out⟩
        | true =>
          obtain ⟨N, hN⟩ : ∃ N, (htm s).length = N := ⟨_, rfl⟩
          have hNb := htm_len s
          rw [hN] at hNb ⊢
          have hm : (Instr.makeSlice 27 (.int .i64 (N : Int)) (.int .i64 (N : Int))).run Tryz.prog wo = .ok (.slice (some ⟨wo.heap.size, 0, none⟩) N N) (wo.alloc (.cells (madeCells #[.int .u8 0] N) 5)) := by
            obtain ⟨i0, hi, hz0, hz1, hz2⟩ := info_parts (show (Tryz.prog.info? 5).map (fun i => (i.zero, i.size, i.bytes)) = some (some (.int .u8 0), 1, 1) by kernel_rfl)
            have h := run_make (P := Tryz.prog) wo 27 5 i0 (.int .u8 0) Tryz.underlying27 hi hz0 .i64 .i64 (N : Int) (N : Int) (by omega) (Int.le_refl _) (by rw [hz2]; omega) (by omega)
            rw [hz1, Int.toNat_natCast, Nat.mul_one] at h
            exact h
          have hbuf0 : Buf wo.heap.size N (htm (s.take 0)) (wo.alloc (.cells (madeCells #[.int .u8 0] N) 5)) := ⟨_, heap_alloc_new _ _, size_madeCells _ _, fun j hj => by simp [htm] at hj⟩
          have HB0 := hid0 hbuf0
          have hwr := HBl.out.size
          clear hbuf0
          go_wp2
          go_loopw [13, 14] (fun v13 v14 wr => ∃ k : Nat, k ≤ s.length ∧ v14 = .int .i64 (k : Int) ∧ v13 = .int .i64 ((htm (s.take k)).length : Int) ∧ Hid (Buf wo.heap.size N (htm (s.take k)) wr) ∧ Hid (Below wo.heap.size wo wr)) (fun _ v14 _ => s.length - (intOf v14).toNat)
          case atStart => exact ⟨0, Nat.zero_le _, rfl, rfl, HB0, hid0 ((Below.refl _ wo).alloc (Nat.le_refl _) _)⟩
          case round =>
            obtain ⟨k, hk, rfl, rfl, HU, HW⟩ := hrel
            clear HB0 hm
            by_cases hkn : k < s.length
            · have hks : k < (B s).size := by omega
              have hi : (B s)[k]'hks = s[k] := List.getElem_toArray hkn
              have hlt := htm_take_lt s k
              rw [hN] at hlt
              obtain ⟨x, hx⟩ : ∃ x, s[k] = x := ⟨_, rfl⟩
              rw [hx] at hi
              have htk : htm (s.take (k + 1)) = htm (s.take k) ++ esc x := by rw [← hx]; exact htm_take s k hkn
              have hel := esc_len x
              obtain ⟨l, hl⟩ : ∃ l, htm (s.take k) = l := ⟨_, rfl⟩
              have hlt2 := htm_take_lt s (k + 1)
              rw [hN, htk, List.length_append] at hlt2
              rw [hl] at htk hlt hlt2 HU ⊢
              obtain ⟨cur, hu1, hu2, hu3⟩ := HU.out
              have hdc := HD.out.hc
              have hxl := x.toNat_lt
              have fG : ∀ j, wr.frozen? ⟨wo.heap.size, j, none⟩ = false := fun j => by simp [World.frozen?, hu1]
              have fGl := fG l.length
              rcases look HD.out x with ⟨hxn, hcell⟩ | ⟨hxs, gx, cap, hcell, hcap, hgx, hby⟩
              · have hc1 : wr.cell? ⟨c, x.toNat, none⟩ = some (.slice none 0 0) := by rw [HW.out.cell (by exact hdc)]; exact hcell
                have hq := neq_nil none 0 0
                have hG : ∃ v, wr.cell? ⟨wo.heap.size, l.length, none⟩ = some v := ⟨cur[l.length]'(by omega), by rw [cell_of_row wr _ _ cur _ _ hu1]; exact Array.getElem?_eq_getElem (by omega)⟩
                obtain ⟨v, hG⟩ := hG
                have hstep := hid0 (buf_one HU.out (show l.length < N by omega) x)
                rw [esc_no x hxn] at htk hel
                rw [← htk] at hstep
                have hlen : (htm (s.take (k + 1))).length = l.length + 1 := by rw [htk, List.length_append]; rfl
                have HLn := hid0 hlen
                have HBel := hid0 (HW.out.setCell (p := ⟨wo.heap.size, l.length, none⟩) (Nat.le_refl _) (.int .u8 (x.toNat : Int)))
                have hll : l.length < N := by omega
                clear hu1 hu3 htk hlen hcell hlt hlt2 hx hA
                go_wp2
                go_roundw
                case rel => exact ⟨k + 1, hkn, by go_num, by rw [HLn.out]; go_num, hstep, HBel⟩
                case measure => simp [intOf]; omega
              · have hc1 : wr.cell? ⟨c, x.toNat, none⟩ = some (.slice (some ⟨gx, 0, none⟩) (esc x).length cap) := by rw [HW.out.cell (by exact hdc)]; exact hcell
                have hq := neq_nil (some ⟨gx, 0, none⟩) (esc x).length cap
                have hll : l.length < N := by omega
                obtain ⟨i0, hi0, hz0, hz1, hz2⟩ := info_parts (show (Tryz.prog.info? 5).map (fun i => (i.zero, i.size, i.bytes)) = some (some (.int .u8 0), 1, 1) by kernel_rfl)
                have hcut := cut_from (P := Tryz.prog) 27 5 .i64 Tryz.underlying27 hi0 1 hz1 (some ⟨wo.heap.size, 0, none⟩) N N (l.length : Int) (by omega) (by omega)
                have hadd : ∀ g j : Nat, (⟨g, 0, none⟩ : Addr).add j = ⟨g, j, none⟩ := by
                  intro g j
                  unfold Addr.add
                  split
                  · rename_i e; subst e; rfl
                  · simp
                rw [Int.toNat_natCast, if_neg (by omega), Nat.mul_one, Option.map_some, hadd] at hcut
                have hml : ((esc x).map (fun y => Value.int .u8 (y.toNat : Int))).length = (esc x).length := List.length_map _
                have hcp := fun ty => run_copy_row (P := Tryz.prog) wr.drew 27 27 ty 5 wo.heap.size l.length (N - l.length) (N - l.length) ⟨gx, 0, none⟩ (esc x).length cap cur 5 ((esc x).map (fun y => Value.int .u8 (y.toNat : Int))) Tryz.underlying27 (by rw [hi0]; simp [hz1]) hu1 (by rw [hml]; exact (Nat.min_eq_left (by omega)).symm) (by
                  intro j v hj
                  have hj2 : j < (esc x).length := by
                    have := (List.getElem?_eq_some_iff.1 hj).1
                    rwa [hml] at this
                  rw [hadd, World.cell?_drew, HW.out.cell (by exact hgx), hby j hj2, ← hj, List.getElem?_map, List.getD_eq_getElem?_getD, List.getElem?_eq_getElem hj2]
                  rfl) (by rw [hml]; omega) (by
                  intro v hv
                  obtain ⟨y, _, rfl⟩ := List.mem_map.1 hv
                  rfl)
                rw [hml] at hcp
                have hstep := hid0 (buf_many (W := wr.drew) hu1 hu2 hu3 (show l.length + (esc x).length ≤ N by omega))
                rw [← htk] at hstep
                have HLn := hid0 (show (htm (s.take (k + 1))).length = l.length + (esc x).length by rw [htk, List.length_append])
                have HBel := hid0 (below_setRow (HW.out.drew) (Nat.le_refl _) (cur.toList.take l.length ++ (esc x).map (fun y => Value.int .u8 (y.toNat : Int)) ++ cur.toList.drop (l.length + (esc x).length)).toArray)
                clear hu1 hu3 htk hcell hlt hx hA hby hadd hi0 hz0 hz1 hz2 hml fG fGl
                generalize (cur.toList.take l.length ++ (esc x).map (fun y => Value.int .u8 (y.toNat : Int)) ++ cur.toList.drop (l.length + (esc x).length)).toArray = nc at hcp hstep HBel
                generalize (esc x).length = M at *
                go_wp2
                go_region
                go_wp2
                go_roundw
                case rel => exact ⟨k + 1, hkn, by go_num, by rw [HLn.out]; go_num, hstep, HBel⟩
                case measure => simp [intOf]; omega
            · obtain rfl : k = s.length := by omega
              obtain ⟨cur, hu1, hu2, hu3⟩ := HU.out
              rw [List.take_length] at hu3
              have kc : (convert 27 9 (.slice (some ⟨wo.heap.size, 0, none⟩) N N)).run Tryz.prog wr = .ok (.string ⟨(htm s).toArray⟩) wr := by
                rw [← hN]
                refine run_convert_bytes_back (P := Tryz.prog) wr 27 9 5 ⟨wo.heap.size, 0, none⟩ _ (htm s) Tryz.underlying27 Tryz.underlying5 Tryz.underlying9 (fun j hj => ?_)
                have hadd : (⟨wo.heap.size, 0, none⟩ : Addr).add j = ⟨wo.heap.size, j, none⟩ := by
                  unfold Addr.add
                  split
                  · rename_i e; subst e; rfl
                  · simp
                rw [hadd, cell_of_row wr _ _ cur _ _ hu1, hu3 j hj, List.getD_eq_getElem?_getD, List.getElem?_eq_getElem hj]
                rfl
              clear hu1 hu3 hA
              go_wp2
              go_ret
              exact ⟨rfl, HBl.out.trans (HW.out.mono hwr)⟩
end Go.Proofs.YtinpchebcnkckaaGreatDoor.PA
