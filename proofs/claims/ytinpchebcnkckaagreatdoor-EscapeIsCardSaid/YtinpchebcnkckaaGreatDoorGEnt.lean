/-
  The contracts of entity.body and of what it calls. Condition: a text of at most 2^40 bytes.
-/
import Derived.Test.YtinpchebcnkckaaGreatDoorGNum
import Derived.Test.YtinpchebcnkckaaGreatDoorGNamed
import Derived.Test.YtinpchebcnkckaaGreatDoorShelf

namespace Go.Proofs.YtinpchebcnkckaaGreatDoor.PA
open Go.RowKit Go.Proofs.YtinpchebcnkckaaGreatDoor.Pl Go.Proofs.YtinpchebcnkckaaGreatDoorW.PrintWords Go.Proofs.YtinpchebcnkckaaGreatDoorW.PrintLast Go.Proofs.YtinpchebcnkckaaGreatDoorW.PrintMore
set_option linter.unusedVariables false

/-- A digit; a digit of sixteen. -/
def dg (x : UInt8) : Bool := decide (48 ≤ x.toNat ∧ x.toNat ≤ 57)
def hxd (x : UInt8) : Bool := decide (dOk 16 x)
theorem digit_any (x : UInt8) (w : World) : Calls Tryz.prog 23 #[.int .u8 (x.toNat : Int)] w fun e w' => e = .returned (.bool (dg x)) ∧ w = w' := by
  by_cases h1 : 48 ≤ x.toNat
  · by_cases h2 : x.toNat ≤ 57
    · have HD := Lib.hid (show dg x = true from decide_eq_true ⟨h1, h2⟩)
      have q1 : decide ((x.toNat : Int) ≤ 57) = true := decide_eq_true (by omega)
      go_enter Tryz.func23, Tryz.ntmps23
      go_wp2
      go_ret
      exact ⟨congrArg (fun z => Ending.returned (.bool z)) HD.out.symm, rfl⟩
    · have HD := Lib.hid (show dg x = false from decide_eq_false (fun h => h2 h.2))
      have h3 : 57 < x.toNat := by omega
      have q1 : decide ((x.toNat : Int) ≤ 57) = false := decide_eq_false (by omega)
      go_enter Tryz.func23, Tryz.ntmps23
      go_wp2
      go_ret
      exact ⟨congrArg (fun z => Ending.returned (.bool z)) HD.out.symm, rfl⟩
  · have HD := Lib.hid (show dg x = false from decide_eq_false (fun h => h1 h.1))
    have h3 : x.toNat < 48 := by omega
    go_enter Tryz.func23, Tryz.ntmps23
    go_wp2
    go_ret
    exact ⟨congrArg (fun z => Ending.returned (.bool z)) HD.out.symm, rfl⟩
theorem hexd_any (x : UInt8) (w : World) : Calls Tryz.prog 52 #[.int .u8 (x.toNat : Int)] w fun e w' => e = .returned (.bool (hxd x)) ∧ w = w' := by
  have hdg := digit_any x
  have h32 := or32 x
  cases hd : dg x with
  | true =>
    have HD := Lib.hid (show hxd x = true from decide_eq_true (.inl (of_decide_eq_true hd)))
    rw [hd] at hdg
    have HG := Lib.hid hdg
    clear hdg hd
    go_enter Tryz.func52, Tryz.ntmps52
    go_wp2_with (first | (go_at_call 23; refine (HG.out _).mono ?_; rintro e w' ⟨rfl, rfl⟩))
    go_ret
    exact ⟨congrArg (fun z => Ending.returned (.bool z)) HD.out.symm, rfl⟩
  | false =>
    have hnd := of_decide_eq_false hd
    rw [hd] at hdg
    have HG := Lib.hid hdg
    have hhx : hxd x = decide (97 ≤ (x.toNat ||| 32) ∧ (x.toNat ||| 32) ≤ 102) := by
      unfold hxd
      rw [decide_eq_decide]
      exact ⟨fun h => h.elim (fun h => absurd h hnd) (fun h => h.2), fun h => .inr ⟨rfl, h⟩⟩
    clear hdg hd hnd
    generalize (x.toNat ||| 32) = m at *
    by_cases h1 : 97 ≤ m
    · by_cases h2 : m ≤ 102
      · rw [decide_eq_true ⟨h1, h2⟩] at hhx
        have HD := Lib.hid hhx
        have q1 : decide ((m : Int) ≤ 102) = true := decide_eq_true (by omega)
        clear hhx
        go_enter Tryz.func52, Tryz.ntmps52
        go_wp2_with (first | (go_at_call 23; refine (HG.out _).mono ?_; rintro e w' ⟨rfl, rfl⟩))
        go_ret
        exact ⟨congrArg (fun z => Ending.returned (.bool z)) HD.out.symm, rfl⟩
      · rw [decide_eq_false (fun h => h2 h.2)] at hhx
        have HD := Lib.hid hhx
        have h3 : 102 < m := by omega
        have q1 : decide ((m : Int) ≤ 102) = false := decide_eq_false (by omega)
        clear hhx h2
        go_enter Tryz.func52, Tryz.ntmps52
        go_wp2_with (first | (go_at_call 23; refine (HG.out _).mono ?_; rintro e w' ⟨rfl, rfl⟩))
        go_ret
        exact ⟨congrArg (fun z => Ending.returned (.bool z)) HD.out.symm, rfl⟩
    · rw [decide_eq_false (fun h => h1 h.1)] at hhx
      have HD := Lib.hid hhx
      have h3 : m < 97 := by omega
      clear hhx h1
      go_enter Tryz.func52, Tryz.ntmps52
      go_wp2_with (first | (go_at_call 23; refine (HG.out _).mono ?_; rintro e w' ⟨rfl, rfl⟩))
      go_ret
      exact ⟨congrArg (fun z => Ending.returned (.bool z)) HD.out.symm, rfl⟩
/-- The character of a number in digits. -/
def fixr (n : Nat) : Int := if n = 0 ∨ Lib.validRune (n : Int) = false then 65533 else (n : Int)
def chr (b most : Nat) (ok : UInt8 → Bool) (s : List UInt8) : ByteArray × Bool := if s = [] ∨ most < s.length ∨ s.all ok = false then (⟨#[]⟩, false) else (Go.Utf8.encode (fixr (num b s)), true)
set_option maxHeartbeats 4000000 in
set_option maxRecDepth 100000 in
theorem all10 (s : List UInt8) (hs : s.length ≤ 1099511627776) (w : World) : Calls Tryz.prog 66 #[.string (B s), .func (.func 23) #[] #[]] w fun e w' => e = .returned (.bool (s.all dg)) ∧ w = w' := by
  have hsz : (B s).size = s.length := B_size s
  go_enter Tryz.func66, Tryz.ntmps66
  go_wp2
  go_loop [8] (fun vi => ∃ k : Nat, vi = .int .i64 k ∧ k ≤ s.length ∧ Hid ((s.take k).all dg = true))
    (fun vi => s.length - (intOf vi).toNat)
  case atStart => exact ⟨0, rfl, by omega, by rw [List.take_zero]; rfl⟩
  case round =>
    obtain ⟨k, rfl, hk, HA⟩ := hrel
    by_cases hkn : k < s.length
    · have hks : k < (B s).size := by omega
      have hi : (B s)[k]'hks = s[k] := List.getElem_toArray hkn
      have hall : (s.take (k + 1)).all dg = dg s[k] := by rw [← List.take_append_getElem hkn, List.all_append, HA.out, Bool.true_and, List.all_cons, List.all_nil, Bool.and_true]; rfl
      cases hok : dg s[k] with
      | true =>
        have HN := Lib.hid (show (s.take (k + 1)).all dg = true by rw [hall, hok])
        have HP := Lib.hid (show ∀ w, Calls Tryz.prog 23 #[.int .u8 (((B s)[k]'hks).toNat : Int)] w fun e w' => e = .returned (.bool true) ∧ w = w' by rw [hi]; intro w; have := digit_any s[k] w; rw [hok] at this; exact this)
        clear hi hall hok HA
        go_wp2_with (first | (go_at_call 23; refine (HP.out _).mono ?_; rintro e w' ⟨rfl, rfl⟩))
        go_round
        case rel => exact ⟨k + 1, by go_num, by omega, HN⟩
        case measure => simp [intOf]; omega
      | false =>
        have HN := Lib.hid (show s.all dg = false by
          rw [← Bool.not_eq_true]
          intro h
          have := List.all_eq_true.1 h _ (List.getElem_mem hkn)
          exact absurd (this.symm.trans hok) (by decide))
        have HP := Lib.hid (show ∀ w, Calls Tryz.prog 23 #[.int .u8 (((B s)[k]'hks).toNat : Int)] w fun e w' => e = .returned (.bool false) ∧ w = w' by rw [hi]; intro w; have := digit_any s[k] w; rw [hok] at this; exact this)
        clear hi hall hok HA
        go_wp2_with (first | (go_at_call 23; refine (HP.out _).mono ?_; rintro e w' ⟨rfl, rfl⟩))
        go_ret
        exact ⟨congrArg (fun z => Ending.returned (.bool z)) HN.out.symm, rfl⟩
    · have HN := Lib.hid (show s.all dg = true by rw [← HA.out, List.take_of_length_le (by omega)])
      have hkb : decide (k < (B s).size) = false := decide_eq_false (by omega)
      clear HA
      go_wp2
      go_ret
      exact ⟨congrArg (fun z => Ending.returned (.bool z)) HN.out.symm, rfl⟩
set_option maxHeartbeats 4000000 in
set_option maxRecDepth 100000 in
theorem chr10 (s : List UInt8) (hs : s.length ≤ 1099511627776) (w : World) : Calls Tryz.prog 51 #[.string (B s), .int .i64 10, .int .i64 7, .func (.func 23) #[] #[]] w fun e w' => e = .returned (.tuple #[.string (chr 10 7 dg s).1, .bool (chr 10 7 dg s).2]) ∧ Below w.heap.size w w' := by
  have hsz : (B s).size = s.length := B_size s
  obtain ⟨⟨q1, q2⟩, hq⟩ : ∃ q, chr 10 7 dg s = q := ⟨_, rfl⟩
  rw [hq]
  unfold chr at hq
  by_cases h0 : s = []
  · rw [if_pos (.inl h0)] at hq
    have HQ := Lib.hid (Prod.mk.inj hq)
    subst h0
    have hemp : (B []).toList = [] := B_toList []
    have hem2 : (B []).toList.isEmpty = true := by rw [hemp]; rfl
    clear hq
    go_enter Tryz.func51, Tryz.ntmps51
    go_wp2
    go_ret2
    exact ⟨ret_sb HQ.out.1.symm HQ.out.2.symm, Below.refl _ _⟩
  · have hemp : (B s).toList.isEmpty = false := by
      rw [B_toList]
      cases s with
      | nil => exact absurd rfl h0
      | cons _ _ => rfl
    by_cases h1 : 7 < s.length
    · rw [if_pos (.inr (.inl h1))] at hq
      have HQ := Lib.hid (Prod.mk.inj hq)
      have h2 : 7 < (B s).size := by omega
      clear hq h0
      go_enter Tryz.func51, Tryz.ntmps51
      go_wp2
      go_ret2
      exact ⟨ret_sb HQ.out.1.symm HQ.out.2.symm, Below.refl _ _⟩
    · have h2 : (B s).size ≤ 7 := by omega
      have hall := all10 s hs
      cases ha : s.all dg with
      | false =>
        rw [if_pos (.inr (.inr ha))] at hq
        have HQ := Lib.hid (Prod.mk.inj hq)
        rw [ha] at hall
        have HA := Lib.hid hall
        clear hq hall ha h0 h1
        go_enter Tryz.func51, Tryz.ntmps51
        go_wp2_with (first | (go_at_call 66; refine (HA.out _).mono ?_; rintro e w' ⟨rfl, rfl⟩))
        go_ret2
        exact ⟨ret_sb HQ.out.1.symm HQ.out.2.symm, Below.refl _ _⟩
      | true =>
        rw [if_neg (by rintro (h | h | h); exact h0 h; exact h1 h; rw [ha] at h; cases h)] at hq
        rw [ha] at hall
        have HA := Lib.hid hall
        have hdk : ∀ x ∈ s, dOk 10 x := fun x hx => (show dg x = true → dOk 10 x from fun h => .inl (of_decide_eq_true h)) (List.all_eq_true.1 ha x hx)
        have HP := Lib.hid (parseInt10 s h0 (by omega) hdk)
        have hlt := num_lt 10 (by decide) s.length s rfl hdk
        have h16 : (16 : Nat) ^ s.length ≤ 16 ^ 7 := Nat.pow_le_pow_right (by decide) (by omega)
        obtain ⟨nn, hnn⟩ : ∃ nn : Nat, num 10 s = nn := ⟨_, rfl⟩
        rw [hnn] at HP hq hlt
        have n1 : nn ≤ 268435455 := by omega
        clear hall ha h0 h1 hdk hlt h16 hnn
        by_cases hz : nn = 0
        · rw [show fixr nn = 65533 from if_pos (.inl hz)] at hq
          have HQ := Lib.hid (Prod.mk.inj hq)
          clear hq
          subst hz
          go_enter Tryz.func51, Tryz.ntmps51
          go_wp2_with (first | (go_at_call 66; refine (HA.out _).mono ?_; rintro e w' ⟨rfl, rfl⟩) | (go_at_call 67; refine (HP.out _).mono ?_; rintro e w' ⟨rfl, hb⟩; have HB := Lib.hid hb; clear hb))
          go_ret2
          exact ⟨ret_sb HQ.out.1.symm HQ.out.2.symm, HB.out⟩
        · have hzb : ((nn : Int) == 0) = false := beq_eq_false_iff_ne.2 (by omega)
          have n0 : 0 < nn := by omega
          cases hv : Lib.validRune (nn : Int) with
          | true =>
            rw [show fixr nn = (nn : Int) from if_neg (by rintro (h | h); exact hz h; rw [hv] at h; cases h)] at hq
            have HQ := Lib.hid (Prod.mk.inj hq)
            have HV := Lib.hid (show ∀ w, Calls Tryz.prog 68 #[.int .i32 (nn : Int)] w fun e w' => e = .returned (.bool true) ∧ w' = w from fun w => by have := Tryz.utf8_ValidRune (nn : Int) w; rw [hv] at this; exact this)
            clear hq hv hz
            go_enter Tryz.func51, Tryz.ntmps51
            go_wp2_with (first | (go_at_call 66; refine (HA.out _).mono ?_; rintro e w' ⟨rfl, rfl⟩) | (go_at_call 67; refine (HP.out _).mono ?_; rintro e w' ⟨rfl, hb⟩; have HB := Lib.hid hb; clear hb) | (go_at_call 68; refine (HV.out _).mono ?_; rintro e w' ⟨rfl, rfl⟩))
            go_ret2
            exact ⟨ret_sb HQ.out.1.symm HQ.out.2.symm, HB.out⟩
          | false =>
            rw [show fixr nn = 65533 from if_pos (.inr hv)] at hq
            have HQ := Lib.hid (Prod.mk.inj hq)
            have HV := Lib.hid (show ∀ w, Calls Tryz.prog 68 #[.int .i32 (nn : Int)] w fun e w' => e = .returned (.bool false) ∧ w' = w from fun w => by have := Tryz.utf8_ValidRune (nn : Int) w; rw [hv] at this; exact this)
            clear hq hv hz
            go_enter Tryz.func51, Tryz.ntmps51
            go_wp2_with (first | (go_at_call 66; refine (HA.out _).mono ?_; rintro e w' ⟨rfl, rfl⟩) | (go_at_call 67; refine (HP.out _).mono ?_; rintro e w' ⟨rfl, hb⟩; have HB := Lib.hid hb; clear hb) | (go_at_call 68; refine (HV.out _).mono ?_; rintro e w' ⟨rfl, rfl⟩))
            go_ret2
            exact ⟨ret_sb HQ.out.1.symm HQ.out.2.symm, HB.out⟩
set_option maxHeartbeats 4000000 in
set_option maxRecDepth 100000 in
theorem all16 (s : List UInt8) (hs : s.length ≤ 1099511627776) (w : World) : Calls Tryz.prog 66 #[.string (B s), .func (.func 52) #[] #[]] w fun e w' => e = .returned (.bool (s.all hxd)) ∧ w = w' := by
  have hsz : (B s).size = s.length := B_size s
  go_enter Tryz.func66, Tryz.ntmps66
  go_wp2
  go_loop [8] (fun vi => ∃ k : Nat, vi = .int .i64 k ∧ k ≤ s.length ∧ Hid ((s.take k).all hxd = true))
    (fun vi => s.length - (intOf vi).toNat)
  case atStart => exact ⟨0, rfl, by omega, by rw [List.take_zero]; rfl⟩
  case round =>
    obtain ⟨k, rfl, hk, HA⟩ := hrel
    by_cases hkn : k < s.length
    · have hks : k < (B s).size := by omega
      have hi : (B s)[k]'hks = s[k] := List.getElem_toArray hkn
      have hall : (s.take (k + 1)).all hxd = hxd s[k] := by rw [← List.take_append_getElem hkn, List.all_append, HA.out, Bool.true_and, List.all_cons, List.all_nil, Bool.and_true]; rfl
      cases hok : hxd s[k] with
      | true =>
        have HN := Lib.hid (show (s.take (k + 1)).all hxd = true by rw [hall, hok])
        have HP := Lib.hid (show ∀ w, Calls Tryz.prog 52 #[.int .u8 (((B s)[k]'hks).toNat : Int)] w fun e w' => e = .returned (.bool true) ∧ w = w' by rw [hi]; intro w; have := hexd_any s[k] w; rw [hok] at this; exact this)
        clear hi hall hok HA
        go_wp2_with (first | (go_at_call 52; refine (HP.out _).mono ?_; rintro e w' ⟨rfl, rfl⟩))
        go_round
        case rel => exact ⟨k + 1, by go_num, by omega, HN⟩
        case measure => simp [intOf]; omega
      | false =>
        have HN := Lib.hid (show s.all hxd = false by
          rw [← Bool.not_eq_true]
          intro h
          have := List.all_eq_true.1 h _ (List.getElem_mem hkn)
          exact absurd (this.symm.trans hok) (by decide))
        have HP := Lib.hid (show ∀ w, Calls Tryz.prog 52 #[.int .u8 (((B s)[k]'hks).toNat : Int)] w fun e w' => e = .returned (.bool false) ∧ w = w' by rw [hi]; intro w; have := hexd_any s[k] w; rw [hok] at this; exact this)
        clear hi hall hok HA
        go_wp2_with (first | (go_at_call 52; refine (HP.out _).mono ?_; rintro e w' ⟨rfl, rfl⟩))
        go_ret
        exact ⟨congrArg (fun z => Ending.returned (.bool z)) HN.out.symm, rfl⟩
    · have HN := Lib.hid (show s.all hxd = true by rw [← HA.out, List.take_of_length_le (by omega)])
      have hkb : decide (k < (B s).size) = false := decide_eq_false (by omega)
      clear HA
      go_wp2
      go_ret
      exact ⟨congrArg (fun z => Ending.returned (.bool z)) HN.out.symm, rfl⟩
set_option maxHeartbeats 4000000 in
set_option maxRecDepth 100000 in
theorem chr16 (s : List UInt8) (hs : s.length ≤ 1099511627776) (w : World) : Calls Tryz.prog 51 #[.string (B s), .int .i64 16, .int .i64 6, .func (.func 52) #[] #[]] w fun e w' => e = .returned (.tuple #[.string (chr 16 6 hxd s).1, .bool (chr 16 6 hxd s).2]) ∧ Below w.heap.size w w' := by
  have hsz : (B s).size = s.length := B_size s
  obtain ⟨⟨q1, q2⟩, hq⟩ : ∃ q, chr 16 6 hxd s = q := ⟨_, rfl⟩
  rw [hq]
  unfold chr at hq
  by_cases h0 : s = []
  · rw [if_pos (.inl h0)] at hq
    have HQ := Lib.hid (Prod.mk.inj hq)
    subst h0
    have hemp : (B []).toList = [] := B_toList []
    have hem2 : (B []).toList.isEmpty = true := by rw [hemp]; rfl
    clear hq
    go_enter Tryz.func51, Tryz.ntmps51
    go_wp2
    go_ret2
    exact ⟨ret_sb HQ.out.1.symm HQ.out.2.symm, Below.refl _ _⟩
  · have hemp : (B s).toList.isEmpty = false := by
      rw [B_toList]
      cases s with
      | nil => exact absurd rfl h0
      | cons _ _ => rfl
    by_cases h1 : 6 < s.length
    · rw [if_pos (.inr (.inl h1))] at hq
      have HQ := Lib.hid (Prod.mk.inj hq)
      have h2 : 6 < (B s).size := by omega
      clear hq h0
      go_enter Tryz.func51, Tryz.ntmps51
      go_wp2
      go_ret2
      exact ⟨ret_sb HQ.out.1.symm HQ.out.2.symm, Below.refl _ _⟩
    · have h2 : (B s).size ≤ 6 := by omega
      have hall := all16 s hs
      cases ha : s.all hxd with
      | false =>
        rw [if_pos (.inr (.inr ha))] at hq
        have HQ := Lib.hid (Prod.mk.inj hq)
        rw [ha] at hall
        have HA := Lib.hid hall
        clear hq hall ha h0 h1
        go_enter Tryz.func51, Tryz.ntmps51
        go_wp2_with (first | (go_at_call 66; refine (HA.out _).mono ?_; rintro e w' ⟨rfl, rfl⟩))
        go_ret2
        exact ⟨ret_sb HQ.out.1.symm HQ.out.2.symm, Below.refl _ _⟩
      | true =>
        rw [if_neg (by rintro (h | h | h); exact h0 h; exact h1 h; rw [ha] at h; cases h)] at hq
        rw [ha] at hall
        have HA := Lib.hid hall
        have hdk : ∀ x ∈ s, dOk 16 x := fun x hx => (show hxd x = true → dOk 16 x from fun h => of_decide_eq_true h) (List.all_eq_true.1 ha x hx)
        have HP := Lib.hid (parseInt16 s h0 (by omega) hdk)
        have hlt := num_lt 16 (by decide) s.length s rfl hdk
        have h16 : (16 : Nat) ^ s.length ≤ 16 ^ 7 := Nat.pow_le_pow_right (by decide) (by omega)
        obtain ⟨nn, hnn⟩ : ∃ nn : Nat, num 16 s = nn := ⟨_, rfl⟩
        rw [hnn] at HP hq hlt
        have n1 : nn ≤ 268435455 := by omega
        clear hall ha h0 h1 hdk hlt h16 hnn
        by_cases hz : nn = 0
        · rw [show fixr nn = 65533 from if_pos (.inl hz)] at hq
          have HQ := Lib.hid (Prod.mk.inj hq)
          clear hq
          subst hz
          go_enter Tryz.func51, Tryz.ntmps51
          go_wp2_with (first | (go_at_call 66; refine (HA.out _).mono ?_; rintro e w' ⟨rfl, rfl⟩) | (go_at_call 67; refine (HP.out _).mono ?_; rintro e w' ⟨rfl, hb⟩; have HB := Lib.hid hb; clear hb))
          go_ret2
          exact ⟨ret_sb HQ.out.1.symm HQ.out.2.symm, HB.out⟩
        · have hzb : ((nn : Int) == 0) = false := beq_eq_false_iff_ne.2 (by omega)
          have n0 : 0 < nn := by omega
          cases hv : Lib.validRune (nn : Int) with
          | true =>
            rw [show fixr nn = (nn : Int) from if_neg (by rintro (h | h); exact hz h; rw [hv] at h; cases h)] at hq
            have HQ := Lib.hid (Prod.mk.inj hq)
            have HV := Lib.hid (show ∀ w, Calls Tryz.prog 68 #[.int .i32 (nn : Int)] w fun e w' => e = .returned (.bool true) ∧ w' = w from fun w => by have := Tryz.utf8_ValidRune (nn : Int) w; rw [hv] at this; exact this)
            clear hq hv hz
            go_enter Tryz.func51, Tryz.ntmps51
            go_wp2_with (first | (go_at_call 66; refine (HA.out _).mono ?_; rintro e w' ⟨rfl, rfl⟩) | (go_at_call 67; refine (HP.out _).mono ?_; rintro e w' ⟨rfl, hb⟩; have HB := Lib.hid hb; clear hb) | (go_at_call 68; refine (HV.out _).mono ?_; rintro e w' ⟨rfl, rfl⟩))
            go_ret2
            exact ⟨ret_sb HQ.out.1.symm HQ.out.2.symm, HB.out⟩
          | false =>
            rw [show fixr nn = 65533 from if_pos (.inr hv)] at hq
            have HQ := Lib.hid (Prod.mk.inj hq)
            have HV := Lib.hid (show ∀ w, Calls Tryz.prog 68 #[.int .i32 (nn : Int)] w fun e w' => e = .returned (.bool false) ∧ w' = w from fun w => by have := Tryz.utf8_ValidRune (nn : Int) w; rw [hv] at this; exact this)
            clear hq hv hz
            go_enter Tryz.func51, Tryz.ntmps51
            go_wp2_with (first | (go_at_call 66; refine (HA.out _).mono ?_; rintro e w' ⟨rfl, rfl⟩) | (go_at_call 67; refine (HP.out _).mono ?_; rintro e w' ⟨rfl, hb⟩; have HB := Lib.hid hb; clear hb) | (go_at_call 68; refine (HV.out _).mono ?_; rintro e w' ⟨rfl, rfl⟩))
            go_ret2
            exact ⟨ret_sb HQ.out.1.symm HQ.out.2.symm, HB.out⟩
end Go.Proofs.YtinpchebcnkckaaGreatDoor.PA
