/-
  The contract of strconv.ParseInt at up to seven digits of base 10 or 16, 32 bits.
-/
import Derived.Test.YtinpchebcnkckaaGreatDoorPAx0
import Derived.Test.YtinpchebcnkckaaGreatDoorPBase
import Derived.Lib.Strings
import Derived.Lib.Walk
import Derived.Lib.ConvBytes
import Derived.Lib.Hide
import Derived.Laws.Strings3
import Derived.Laws.Closers25
import Derived.Laws.Closers25b
import Derived.WalkKit
import Derived.BigCall
import Derived.BigGuard
import Derived.KernelRfl
namespace Go.Proofs.YtinpchebcnkckaaGreatDoor.PA
open Go.RowKit Go.Proofs.YtinpchebcnkckaaGreatDoor.Pl
set_option linter.unusedVariables false

/-- A digit's value. -/
def dv (x : UInt8) : Nat := if 48 ≤ x.toNat ∧ x.toNat ≤ 57 then x.toNat - 48 else (x.toNat ||| 32) - 87
def dOk (b : Nat) (x : UInt8) : Prop := (48 ≤ x.toNat ∧ x.toNat ≤ 57) ∨ (b = 16 ∧ 97 ≤ (x.toNat ||| 32) ∧ (x.toNat ||| 32) ≤ 102)
instance (b : Nat) (x : UInt8) : Decidable (dOk b x) := by unfold dOk; exact inferInstance
def num (b : Nat) (l : List UInt8) : Nat := l.foldl (fun n x => n * b + dv x) 0
theorem num_snoc (b : Nat) (l : List UInt8) (x : UInt8) : num b (l ++ [x]) = num b l * b + dv x := by simp [num]
theorem hexL (x : UInt8) (h : 97 ≤ (x.toNat ||| 32)) (h2 : (x.toNat ||| 32) ≤ 102) : 57 < x.toNat := by
  have h0 : ∀ y : Fin 256, 97 ≤ (y.val ||| 32) → 57 < y.val := by decide +kernel
  exact h0 ⟨x.toNat, x.toNat_lt⟩ h
theorem hexU (x : UInt8) (h : 97 ≤ (x.toNat ||| 32)) (h2 : (x.toNat ||| 32) ≤ 102) : x.toNat ≠ 95 := by
  have h0 : ∀ y : Fin 256, 97 ≤ (y.val ||| 32) → (y.val ||| 32) ≤ 102 → y.val ≠ 95 := by decide +kernel
  exact h0 ⟨x.toNat, x.toNat_lt⟩ h h2
theorem dv_le (b : Nat) (x : UInt8) (h : dOk b x) (hb : b = 10 ∨ b = 16) : dv x < b := by
  unfold dv
  rcases h with h | ⟨h1, h2, h3⟩
  · rw [if_pos h]
    omega
  · have := hexL x h2 h3
    rw [if_neg (by omega)]
    omega
theorem num_lt (b : Nat) (hb : b = 10 ∨ b = 16) : ∀ (n : Nat) (l : List UInt8), l.length = n → (∀ x ∈ l, dOk b x) → num b l + 1 ≤ 16 ^ n := by
  intro n
  induction n with
  | zero =>
    intro l hl _
    obtain rfl := List.length_eq_zero_iff.1 hl
    exact Nat.le_refl _
  | succ n ih =>
    intro l hl h
    rcases List.eq_nil_or_concat l with rfl | ⟨q, y, rfl⟩
    · cases hl
    · rw [List.concat_eq_append] at *
      have h1 := ih q (by simpa using hl) (fun x hx => h x (List.mem_append_left _ hx))
      have h2 := dv_le b y (h y (by simp)) hb
      rw [num_snoc, Nat.pow_succ]
      have h3 : num b q * b ≤ num b q * 16 := Nat.mul_le_mul_left _ (by omega)
      omega
theorem or32 (x : UInt8) : bits .or .u8 (x.toNat : Int) 32 = ((x.toNat ||| 32 : Nat) : Int) := by
  have h : ∀ y : Fin 256, bits .or .u8 (y.val : Int) 32 = ((y.val ||| 32 : Nat) : Int) := by decide +kernel
  exact h ⟨x.toNat, x.toNat_lt⟩
theorem lower_any (x : UInt8) (w : World) : Calls Tryz.prog 103 #[.int .u8 (x.toNat : Int)] w fun e w' => e = .returned (.int .u8 ((x.toNat ||| 32 : Nat) : Int)) ∧ w = w' := by
  have h := or32 x
  go_enter Tryz.func103, Tryz.ntmps103
  go_wp2
  go_ret
  exact ⟨by first | rfl | (rw [← h]; rfl) | (simp [h]; done), rfl⟩
set_option maxHeartbeats 32000000 in
set_option maxRecDepth 100000 in
theorem puint10 (s : List UInt8) (h0 : s ≠ []) (h7 : s.length ≤ 7) (hd : ∀ x ∈ s, dOk 10 x) (w : World) :
    Calls Tryz.prog 91 #[.string (B s), .int .i64 10, .int .i64 32] w fun e w' => e = .returned (.tuple #[.int .u64 (num 10 s : Nat), .nilIface]) ∧ Below w.heap.size w w' := by
  have hsz : (B s).size = s.length := B_size s
  have hemp : (B s).toList.isEmpty = false := by
    rw [B_toList]
    cases s with
    | nil => exact absurd rfl h0
    | cons _ _ => rfl
  have hcv := Lib.run_convert_string_bytes (P := Tryz.prog) w 9 27 5 (B s) (u := .string) Tryz.underlying9 Tryz.underlying27 Tryz.underlying5
  have hBc : ∀ j, j < s.length → (Lib.bytesWorld w 5 (B s)).cell? ⟨w.heap.size, j, none⟩ = some (.int .u8 ((B s).data.toList.getD j 0).toNat) := fun j hj => Lib.bytesWorld_cell w 5 (B s) j (by omega)
  have hBel : Below w.heap.size w (Lib.bytesWorld w 5 (B s)) := (Below.refl _ w).grown (row := none) ⟨rfl, rfl, rfl, by rw [Lib.bytesWorld_size]; omega, fun k hk _ => Lib.bytesWorld_at_old w _ _ k hk⟩ (Nat.le_refl _) (fun k hk => by cases hk)
  obtain ⟨W1, hW1⟩ : ∃ W1, W1 = Lib.bytesWorld w 5 (B s) := ⟨_, rfl⟩
  rw [← hW1] at hcv hBc hBel
  clear hW1
  rw [hsz] at hcv
  rw [B_data] at hBc
  have hmv : IntKind.u64.wrap (IntKind.u64.wrap 4294967296 - 1) = 4294967295 := by
    rw [IntKind.wrap_u64, IntKind.wrap_u64]
    decide
  have HB := Lib.hid hBel
  have HD := Lib.hid hd
  clear hBel hsz hd
  obtain ⟨nb, hnb⟩ : ∃ nb : List UInt8 → Nat, nb = num 10 := ⟨_, rfl⟩
  have HNS := Lib.hid (show ∀ l x, nb (l ++ [x]) = nb l * 10 + dv x from fun l x => by rw [hnb]; exact num_snoc 10 l x)
  have HN0 := Lib.hid (show nb [] = 0 by rw [hnb]; rfl)
  rw [← hnb]
  clear hnb
  go_enter Tryz.func91, Tryz.ntmps91
  go_wp2
  go_loop [12, 13, 101] (fun vu vn vi => ∃ (k : Nat) (a : Int), vu = .bool false ∧ vn = .int .u64 a ∧ vi = .int .i64 k ∧ k ≤ s.length ∧ Hid (a = ((nb (s.take k) : Nat) : Int) ∧ nb (s.take k) + 1 ≤ 16 ^ k))
    (fun _ _ vi => s.length - (intOf vi).toNat)
  case atStart => exact ⟨0, 0, rfl, rfl, rfl, by omega, by rw [List.take_zero, HN0.out]; rfl, by rw [List.take_zero, HN0.out]; exact Nat.le_refl _⟩
  case round =>
    obtain ⟨k, a, rfl, rfl, rfl, hk, hh⟩ := hrel
    obtain ⟨ha, hle⟩ := hh.out
    clear hh
    have a0 : 0 ≤ a := by omega
    by_cases hkn : k < s.length
    · have hc := hBc k hkn
      have hget : s.getD k 0 = s[k] := by rw [List.getD_eq_getElem?_getD, List.getElem?_eq_getElem hkn]; rfl
      have hdk := HD.out s[k] (List.getElem_mem hkn)
      have hsn := HNS.out (s.take k) s[k]
      rw [List.take_append_getElem hkn] at hsn
      rw [hget] at hc
      have h16 : (16 : Nat) ^ k ≤ 16 ^ 6 := Nat.pow_le_pow_right (by decide) (by omega)
      have a1 : a ≤ 16777215 := by omega
      have hdv := dv_le 10 s[k] hdk (by decide)
      have hs16 : (16 : Nat) ^ (k + 1) = 16 ^ k * 16 := Nat.pow_succ _ _
      have hdd : dv s[k] = if 48 ≤ s[k].toNat ∧ s[k].toNat ≤ 57 then s[k].toNat - 48 else (s[k].toNat ||| 32) - 87 := rfl
      clear hBc hget
      generalize s[k] = c at *
      have hc256 : c.toNat < 256 := c.toNat_lt
      by_cases hdig : 48 ≤ c.toNat ∧ c.toNat ≤ 57
      · obtain ⟨hd0, hd1⟩ := hdig
        rw [if_pos ⟨hd0, hd1⟩] at hdd
        have HN : Hid (a * 10 + ((c.toNat : Int) - 48) = ((nb (s.take (k + 1)) : Nat) : Int) ∧ nb (s.take (k + 1)) + 1 ≤ 16 ^ (k + 1)) := Lib.hid ⟨by omega, by omega⟩
        have q95 : ((c.toNat : Int) == 95) = false := beq_eq_false_iff_ne.2 (by omega)
        clear ha hle h16 hs16 hdk hdv hsn hdd
        go_wp2
        refine ⟨⟨k + 1, a * 10 + ((c.toNat : Int) - 48), rfl, (by first | rfl | (congr 1; omega)), (by first | rfl | (congr 1; omega)), by omega, HN⟩, by simp [intOf]; omega⟩
      · rcases hdk with hx | ⟨hx, hlo, hhi⟩
        · exact absurd hx hdig
        · exact absurd hx (by decide)
    · have hge : s.length ≤ k := by omega
      have HA := Lib.hid (show a = ((nb s : Nat) : Int) by rw [ha, List.take_of_length_le hge])
      have h16 : (16 : Nat) ^ k ≤ 16 ^ 7 := Nat.pow_le_pow_right (by decide) (by omega)
      have a1 : a ≤ 268435455 := by omega
      have hkb : decide (k < s.length) = false := decide_eq_false hkn
      clear ha hle h16 hBc
      go_wp2
      go_ret2
      exact ⟨congrArg (fun z => Ending.returned (.tuple #[.int .u64 z, .nilIface])) HA.out, HB.out⟩
set_option maxHeartbeats 32000000 in
set_option maxRecDepth 100000 in
theorem pint10 (s : List UInt8) (h0 : s ≠ []) (h7 : s.length ≤ 7) (hd : ∀ x ∈ s, dOk 10 x) (w : World) :
    Calls Tryz.prog 79 #[.string (B s), .int .i64 10, .int .i64 32] w fun e w' => e = .returned (.tuple #[.int .i64 (num 10 s : Nat), .nilIface]) ∧ Below w.heap.size w w' := by
  have hl := num_lt 10 (by decide) s.length s rfl hd
  have h16 : (16 : Nat) ^ s.length ≤ 16 ^ 7 := Nat.pow_le_pow_right (by decide) (by omega)
  have hpu := puint10 s h0 h7 hd
  obtain ⟨nn, hnn⟩ : ∃ nn : Int, nn = ((num 10 s : Nat) : Int) := ⟨_, rfl⟩
  have n0 : 0 ≤ nn := by omega
  have n1 : nn ≤ 268435455 := by omega
  rw [← hnn] at hpu ⊢
  clear hl h16 hnn
  have hemp : (B s).toList.isEmpty = false := by
    rw [B_toList]
    cases s with
    | nil => exact absurd rfl h0
    | cons _ _ => rfl
  have hpos : 0 < (B s).size := by rw [B_size]; exact List.length_pos_iff.2 h0
  have hb0 : (B s)[0]'hpos = s[0]'(List.length_pos_iff.2 h0) := List.getElem_toArray (List.length_pos_iff.2 h0)
  have hx : 48 ≤ ((B s)[0]'hpos).toNat := by
    rw [hb0]
    rcases hd _ (List.getElem_mem (List.length_pos_iff.2 h0)) with h | ⟨_, h1, h2⟩
    · exact h.1
    · have := hexL _ h1 h2
      omega
  clear hb0
  have q1 : ((((B s)[0]'hpos).toNat : Int) == 43) = false := beq_eq_false_iff_ne.2 (by omega)
  have q2 : ((((B s)[0]'hpos).toNat : Int) == 45) = false := beq_eq_false_iff_ne.2 (by omega)
  have HPU := Lib.hid hpu
  clear hpu hd
  go_enter Tryz.func79, Tryz.ntmps79
  go_wp2_with fail
  refine (HPU.out _).mono ?_
  rintro e w1 ⟨rfl, hb⟩
  go_wp2
  go_ret2
  exact ⟨rfl, hb⟩
set_option maxHeartbeats 32000000 in
set_option maxRecDepth 100000 in
theorem parseInt10 (s : List UInt8) (h0 : s ≠ []) (h7 : s.length ≤ 7) (hd : ∀ x ∈ s, dOk 10 x) (w : World) :
    Calls Tryz.prog 67 #[.string (B s), .int .i64 10, .int .i64 32] w fun e w' => e = .returned (.tuple #[.int .i64 (num 10 s : Nat), .nilIface]) ∧ Below w.heap.size w w' := by
  have HPI := Lib.hid (pint10 s h0 h7 hd w)
  go_enter Tryz.func67, Tryz.ntmps67
  go_wp2_with fail
  refine HPI.out.mono ?_
  rintro e w1 ⟨rfl, hb⟩
  go_wp2
  go_ret2
  exact ⟨rfl, hb⟩
set_option maxHeartbeats 32000000 in
set_option maxRecDepth 100000 in
theorem puint16 (s : List UInt8) (h0 : s ≠ []) (h7 : s.length ≤ 7) (hd : ∀ x ∈ s, dOk 16 x) (w : World) :
    Calls Tryz.prog 91 #[.string (B s), .int .i64 16, .int .i64 32] w fun e w' => e = .returned (.tuple #[.int .u64 (num 16 s : Nat), .nilIface]) ∧ Below w.heap.size w w' := by
  have hsz : (B s).size = s.length := B_size s
  have hemp : (B s).toList.isEmpty = false := by
    rw [B_toList]
    cases s with
    | nil => exact absurd rfl h0
    | cons _ _ => rfl
  have hcv := Lib.run_convert_string_bytes (P := Tryz.prog) w 9 27 5 (B s) (u := .string) Tryz.underlying9 Tryz.underlying27 Tryz.underlying5
  have hBc : ∀ j, j < s.length → (Lib.bytesWorld w 5 (B s)).cell? ⟨w.heap.size, j, none⟩ = some (.int .u8 ((B s).data.toList.getD j 0).toNat) := fun j hj => Lib.bytesWorld_cell w 5 (B s) j (by omega)
  have hBel : Below w.heap.size w (Lib.bytesWorld w 5 (B s)) := (Below.refl _ w).grown (row := none) ⟨rfl, rfl, rfl, by rw [Lib.bytesWorld_size]; omega, fun k hk _ => Lib.bytesWorld_at_old w _ _ k hk⟩ (Nat.le_refl _) (fun k hk => by cases hk)
  obtain ⟨W1, hW1⟩ : ∃ W1, W1 = Lib.bytesWorld w 5 (B s) := ⟨_, rfl⟩
  rw [← hW1] at hcv hBc hBel
  clear hW1
  rw [hsz] at hcv
  rw [B_data] at hBc
  have hmv : IntKind.u64.wrap (IntKind.u64.wrap 4294967296 - 1) = 4294967295 := by
    rw [IntKind.wrap_u64, IntKind.wrap_u64]
    decide
  have HB := Lib.hid hBel
  have HD := Lib.hid hd
  clear hBel hsz hd
  obtain ⟨nb, hnb⟩ : ∃ nb : List UInt8 → Nat, nb = num 16 := ⟨_, rfl⟩
  have HNS := Lib.hid (show ∀ l x, nb (l ++ [x]) = nb l * 16 + dv x from fun l x => by rw [hnb]; exact num_snoc 16 l x)
  have HN0 := Lib.hid (show nb [] = 0 by rw [hnb]; rfl)
  rw [← hnb]
  clear hnb
  go_enter Tryz.func91, Tryz.ntmps91
  go_wp2
  go_loop [12, 13, 101] (fun vu vn vi => ∃ (k : Nat) (a : Int), vu = .bool false ∧ vn = .int .u64 a ∧ vi = .int .i64 k ∧ k ≤ s.length ∧ Hid (a = ((nb (s.take k) : Nat) : Int) ∧ nb (s.take k) + 1 ≤ 16 ^ k))
    (fun _ _ vi => s.length - (intOf vi).toNat)
  case atStart => exact ⟨0, 0, rfl, rfl, rfl, by omega, by rw [List.take_zero, HN0.out]; rfl, by rw [List.take_zero, HN0.out]; exact Nat.le_refl _⟩
  case round =>
    obtain ⟨k, a, rfl, rfl, rfl, hk, hh⟩ := hrel
    obtain ⟨ha, hle⟩ := hh.out
    clear hh
    have a0 : 0 ≤ a := by omega
    by_cases hkn : k < s.length
    · have hc := hBc k hkn
      have hget : s.getD k 0 = s[k] := by rw [List.getD_eq_getElem?_getD, List.getElem?_eq_getElem hkn]; rfl
      have hdk := HD.out s[k] (List.getElem_mem hkn)
      have hsn := HNS.out (s.take k) s[k]
      rw [List.take_append_getElem hkn] at hsn
      rw [hget] at hc
      have h16 : (16 : Nat) ^ k ≤ 16 ^ 6 := Nat.pow_le_pow_right (by decide) (by omega)
      have a1 : a ≤ 16777215 := by omega
      have hdv := dv_le 16 s[k] hdk (by decide)
      have hs16 : (16 : Nat) ^ (k + 1) = 16 ^ k * 16 := Nat.pow_succ _ _
      have hdd : dv s[k] = if 48 ≤ s[k].toNat ∧ s[k].toNat ≤ 57 then s[k].toNat - 48 else (s[k].toNat ||| 32) - 87 := rfl
      clear hBc hget
      generalize s[k] = c at *
      have hc256 : c.toNat < 256 := c.toNat_lt
      by_cases hdig : 48 ≤ c.toNat ∧ c.toNat ≤ 57
      · obtain ⟨hd0, hd1⟩ := hdig
        rw [if_pos ⟨hd0, hd1⟩] at hdd
        have HN : Hid (a * 16 + ((c.toNat : Int) - 48) = ((nb (s.take (k + 1)) : Nat) : Int) ∧ nb (s.take (k + 1)) + 1 ≤ 16 ^ (k + 1)) := Lib.hid ⟨by omega, by omega⟩
        have q95 : ((c.toNat : Int) == 95) = false := beq_eq_false_iff_ne.2 (by omega)
        clear ha hle h16 hs16 hdk hdv hsn hdd
        go_wp2
        refine ⟨⟨k + 1, a * 16 + ((c.toNat : Int) - 48), rfl, (by first | rfl | (congr 1; omega)), (by first | rfl | (congr 1; omega)), by omega, HN⟩, by simp [intOf]; omega⟩
      · rcases hdk with hx | ⟨hx, hlo, hhi⟩
        · exact absurd hx hdig
        · have hgt := hexL c hlo hhi
          rw [if_neg hdig] at hdd
          have hu := hexU c hlo hhi
          have q95 : ((c.toNat : Int) == 95) = false := beq_eq_false_iff_ne.2 (by omega)
          have HL := lower_any c
          generalize (c.toNat ||| 32) = m at *
          have HN : Hid (a * 16 + ((m : Int) - 97 + 10) = ((nb (s.take (k + 1)) : Nat) : Int) ∧ nb (s.take (k + 1)) + 1 ≤ 16 ^ (k + 1)) := Lib.hid ⟨by omega, by omega⟩
          have HLH := Lib.hid HL
          clear ha hle h16 hs16 hdv hsn hdd hx hdig HL hu
          go_wp2_with (go_at_call 103; refine (HLH.out _).mono ?_; rintro e w' ⟨rfl, rfl⟩)
          refine ⟨⟨k + 1, a * 16 + ((m : Int) - 97 + 10), rfl, (by first | rfl | (congr 1; omega)), (by first | rfl | (congr 1; omega)), by omega, HN⟩, by simp [intOf]; omega⟩
    · have hge : s.length ≤ k := by omega
      have HA := Lib.hid (show a = ((nb s : Nat) : Int) by rw [ha, List.take_of_length_le hge])
      have h16 : (16 : Nat) ^ k ≤ 16 ^ 7 := Nat.pow_le_pow_right (by decide) (by omega)
      have a1 : a ≤ 268435455 := by omega
      have hkb : decide (k < s.length) = false := decide_eq_false hkn
      clear ha hle h16 hBc
      go_wp2
      go_ret2
      exact ⟨congrArg (fun z => Ending.returned (.tuple #[.int .u64 z, .nilIface])) HA.out, HB.out⟩
set_option maxHeartbeats 32000000 in
set_option maxRecDepth 100000 in
theorem pint16 (s : List UInt8) (h0 : s ≠ []) (h7 : s.length ≤ 7) (hd : ∀ x ∈ s, dOk 16 x) (w : World) :
    Calls Tryz.prog 79 #[.string (B s), .int .i64 16, .int .i64 32] w fun e w' => e = .returned (.tuple #[.int .i64 (num 16 s : Nat), .nilIface]) ∧ Below w.heap.size w w' := by
  have hl := num_lt 16 (by decide) s.length s rfl hd
  have h16 : (16 : Nat) ^ s.length ≤ 16 ^ 7 := Nat.pow_le_pow_right (by decide) (by omega)
  have hpu := puint16 s h0 h7 hd
  obtain ⟨nn, hnn⟩ : ∃ nn : Int, nn = ((num 16 s : Nat) : Int) := ⟨_, rfl⟩
  have n0 : 0 ≤ nn := by omega
  have n1 : nn ≤ 268435455 := by omega
  rw [← hnn] at hpu ⊢
  clear hl h16 hnn
  have hemp : (B s).toList.isEmpty = false := by
    rw [B_toList]
    cases s with
    | nil => exact absurd rfl h0
    | cons _ _ => rfl
  have hpos : 0 < (B s).size := by rw [B_size]; exact List.length_pos_iff.2 h0
  have hb0 : (B s)[0]'hpos = s[0]'(List.length_pos_iff.2 h0) := List.getElem_toArray (List.length_pos_iff.2 h0)
  have hx : 48 ≤ ((B s)[0]'hpos).toNat := by
    rw [hb0]
    rcases hd _ (List.getElem_mem (List.length_pos_iff.2 h0)) with h | ⟨_, h1, h2⟩
    · exact h.1
    · have := hexL _ h1 h2
      omega
  clear hb0
  have q1 : ((((B s)[0]'hpos).toNat : Int) == 43) = false := beq_eq_false_iff_ne.2 (by omega)
  have q2 : ((((B s)[0]'hpos).toNat : Int) == 45) = false := beq_eq_false_iff_ne.2 (by omega)
  have HPU := Lib.hid hpu
  clear hpu hd
  go_enter Tryz.func79, Tryz.ntmps79
  go_wp2_with fail
  refine (HPU.out _).mono ?_
  rintro e w1 ⟨rfl, hb⟩
  go_wp2
  go_ret2
  exact ⟨rfl, hb⟩
set_option maxHeartbeats 32000000 in
set_option maxRecDepth 100000 in
theorem parseInt16 (s : List UInt8) (h0 : s ≠ []) (h7 : s.length ≤ 7) (hd : ∀ x ∈ s, dOk 16 x) (w : World) :
    Calls Tryz.prog 67 #[.string (B s), .int .i64 16, .int .i64 32] w fun e w' => e = .returned (.tuple #[.int .i64 (num 16 s : Nat), .nilIface]) ∧ Below w.heap.size w w' := by
  have HPI := Lib.hid (pint16 s h0 h7 hd w)
  go_enter Tryz.func67, Tryz.ntmps67
  go_wp2_with fail
  refine HPI.out.mono ?_
  rintro e w1 ⟨rfl, hb⟩
  go_wp2
  go_ret2
  exact ⟨rfl, hb⟩
end Go.Proofs.YtinpchebcnkckaaGreatDoor.PA
